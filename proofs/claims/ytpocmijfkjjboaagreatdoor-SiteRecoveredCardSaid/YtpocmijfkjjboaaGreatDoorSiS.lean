/- the reference's site: frames of its parts; moves, Given; append at a step of a drawn region. -/
import Derived.Test.YtpocmijfkjjboaaGreatDoorSiR
set_option linter.unusedVariables false
namespace Go.Proofs.YtpocmijfkjjboaaGreatDoor
open Go.ChangeShapes Go.WideShapes Go.ChangeAt Go.RowKit

structure RDjs (g : Nat) (p : RV) : Prop where
  g1 : Dj (some g) p.vl.ownBlock
  g2 : Dj (some g) p.va.ownBlock
  g3 : Dj (some g) p.vc.ownBlock
  g4 : Dj (some g) p.vk.ownBlock
  l2 : Dj p.vl.ownBlock p.va.ownBlock
  l3 : Dj p.vl.ownBlock p.vc.ownBlock
  l4 : Dj p.vl.ownBlock p.vk.ownBlock
  a3 : Dj p.va.ownBlock p.vc.ownBlock
  a4 : Dj p.va.ownBlock p.vk.ownBlock
  c4 : Dj p.vc.ownBlock p.vk.ownBlock
theorem RDjs.iff {g : Nat} {p : RV} : (p.fp g).Pairwise Dj ↔ RDjs g p := by
  simp only [RV.fp, List.pairwise_cons, List.mem_cons, List.not_mem_nil, or_false, forall_eq_or_imp, forall_eq, List.Pairwise.nil, and_true]
  constructor
  · rintro ⟨⟨g1, g2, g3, g4⟩, ⟨l2, l3, l4⟩, ⟨a3, a4⟩, c4, -⟩
    exact ⟨g1, g2, g3, g4, l2, l3, l4, a3, a4, c4⟩
  · rintro ⟨g1, g2, g3, g4, l2, l3, l4, a3, a4, c4⟩
    exact ⟨⟨g1, g2, g3, g4⟩, ⟨l2, l3, l4⟩, ⟨a3, a4⟩, c4, fun _ h => h.elim⟩
theorem RefW.ltl {w : World} {g : Nat} {s : St} {p : RV} (h : RefW w g s p) {b : Nat} (hb : p.vl.ownBlock = some b) : b < w.heap.size := by
  obtain ⟨l, _, hl⟩ := h.tags
  exact hl.lt hb
theorem RefW.remake {w w' : World} {g : Nat} {s : St} {p : RV} (h : RefW w g s p) (s' : St) (p' : RV) (n : Nat) (hn : w.heap.size ≤ n)
    (hown : At w' g 66 #[p'.vl, p'.va, .string s'.member, p'.vc, p'.vk, .bool s'.poured]) (hvl : p'.vl = p.vl) (hst : s'.tags = s.tags)
    (hkl : ∀ b, p.vl.ownBlock = some b → w'.heap[b]? = w.heap[b]?)
    (ha : Row w' 3 1 encN p'.va s'.at_) (haa : p'.va.ownBlock = p.va.ownBlock)
    (hc : Row w' 9 1 encS p'.vc s'.open_) (hcc : p'.vc.ownBlock = p.vc.ownBlock ∨ p'.vc.ownBlock = some n ∨ p'.vc.ownBlock = none)
    (hk : Row w' 39 3 encE p'.vk s'.kept) (hkk : p'.vk.ownBlock = p.vk.ownBlock ∨ p'.vk.ownBlock = some n)
    (hone : p'.vc.ownBlock = p.vc.ownBlock ∨ p'.vk.ownBlock = p.vk.ownBlock) (hf : Frm (p.fp g) w w') : RDone w w' g s' p := by
  have d := RDjs.iff.1 h.sep
  have lg : ∀ x, (some g : Option Nat) = some x → x < n := fun x e => by injection e with e; have := h.own.lt; omega
  have ll : ∀ x, p.vl.ownBlock = some x → x < n := fun x e => by have := h.ltl e; omega
  have la : ∀ x, p.va.ownBlock = some x → x < n := fun x e => by have := h.wher.lt e; omega
  have lc : ∀ x, p.vc.ownBlock = some x → x < n := fun x e => by have := h.opn.lt e; omega
  have lk : ∀ x, p.vk.ownBlock = some x → x < n := fun x e => by have := h.ents.lt e; omega
  have upc : ∀ {a : Option Nat}, Dj a p.vc.ownBlock → (∀ x, a = some x → x < n) → Dj a p'.vc.ownBlock := fun h1 h2 => by
    rcases hcc with q | q | q
    · exact h1.up h2 (.inl q)
    · exact h1.up h2 (.inr q)
    · intro x _ h4
      rw [q] at h4
      cases h4
  refine ⟨p', ⟨hown, ?_, ha, hc, hk, ?_⟩, hf, ?_⟩
  · obtain ⟨l, e, hl⟩ := h.tags
    exact ⟨l, by rw [e, hst], by rw [hvl]; exact hl.keep hkl⟩
  · rw [RDjs.iff]
    refine ⟨hvl ▸ d.g1, haa ▸ d.g2, upc d.g3 lg, d.g4.up lg hkk, ?_, ?_, ?_, ?_, ?_, ?_⟩
    · rw [hvl, haa]; exact d.l2
    · rw [hvl]; exact upc d.l3 ll
    · rw [hvl]; exact d.l4.up ll hkk
    · rw [haa]; exact upc d.a3 la
    · rw [haa]; exact d.a4.up la hkk
    · rcases hone with q | q
      · rw [q]; exact d.c4.up lc hkk
      · rw [q]; exact (upc d.c4.symm lk).symm
  · intro b hb
    simp only [RV.fp, List.mem_cons, List.not_mem_nil, or_false] at hb ⊢
    rcases hb with q | q | q | q | q
    · exact .inl (.inl q)
    · exact .inl (.inr (.inl (by rw [q, hvl])))
    · exact .inl (.inr (.inr (.inl (by rw [q, haa]))))
    · rcases hcc with e | e | e
      · exact .inl (.inr (.inr (.inr (.inl (by rw [q, e])))))
      · rw [e] at q
        injection q with q
        exact .inr (by omega)
      · rw [e] at q
        cases q
    · rcases hkk with e | e
      · exact .inl (.inr (.inr (.inr (.inr (by rw [q, e])))))
      · rw [e] at q
        injection q with q
        exact .inr (by omega)
theorem RefW.pushK {w w1 : World} {g N : Nat} {s : St} {p : RV} (hs : RefW w g s p) (x : Ent) {v' : Value} (ho1 : w1.ownsRow 0 39 3 v' (s.kept.length + 1) (s.kept.flatMap encE ++ encE x)) (hga : w.grownBy w1 p.vk.ownBlock) (hloc : v'.ownBlock = p.vk.ownBlock ∨ v'.ownBlock = some N) (hN : w.heap.size ≤ N) :
    At w1 g 66 #[p.vl, p.va, .string s.member, p.vc, p.vk, .bool s.poured] ∧ RDone w (w1.setCell ⟨g, 4, none⟩ v') g { s with kept := s.kept ++ [x] } p := by
  have d := RDjs.iff.1 hs.sep
  have hat1 : At w1 g 66 #[p.vl, p.va, .string s.member, p.vc, p.vk, .bool s.poured] := (hga.block g hs.own.lt (fun e => d.g4 g rfl e.symm)).trans hs.own
  refine ⟨hat1, ?_⟩
  have kp : ∀ o : Option Nat, Dj (some g) o → Dj o p.vk.ownBlock → (∀ x, o = some x → x < w.heap.size) → ∀ x, o = some x → (w1.setCell ⟨g, 4, none⟩ v').heap[x]? = w.heap[x]? := fun o h1 h2 h3 x e => (Below.heap_setCell _ _ _ _ (fun hx => h1 x (by rw [hx]) e)).trans (hga.block x (h3 x e) (fun e2 => h2 x e e2.symm))
  have hrow1 : Row w1 39 3 encE v' (s.kept ++ [x]) := by
    unfold Row
    rw [List.length_append, List.flatMap_append, List.flatMap_singleton]
    exact ho1
  refine hs.remake _ ⟨p.vl, p.va, p.vc, v'⟩ N hN (by simpa using hat1.put 4 v') rfl rfl (kp _ d.g1 d.l4 fun x e => hs.ltl e) (hs.wher.keep (kp _ d.g2 d.a4 fun x e => hs.wher.lt e)) rfl (hs.opn.keep (kp _ d.g3 d.c4 fun x e => hs.opn.lt e)) (.inl rfl) (hrow1.keep fun x e => Below.heap_setCell _ _ _ _ (fun hx => by
    have hx : x = g := hx
    rcases hloc with q | q
    · exact d.g4 g rfl (by rw [← q, e, hx])
    · rw [q] at e
      injection e with e
      have := hs.own.lt
      omega)) hloc (.inl rfl) ?_
  exact Frm.trans (F' := p.fp g) (Frm.of_grown hga (.inl (by simp [RV.fp]))) (Frm.of_set (by simp [RV.fp]) _) (fun x h => .inl h)
/-- Other checks: in the old row, in a new block, or none. -/
theorem RefW.putC {w w1 : World} {g N : Nat} {s : St} {p : RV} (hs : RefW w g s p) (l : List ByteArray) {v' : Value} (ho1 : w1.ownsRow 0 9 1 v' l.length (l.flatMap encS)) (hga : w.grownBy w1 p.vc.ownBlock) (hloc : v'.ownBlock = p.vc.ownBlock ∨ v'.ownBlock = some N ∨ v'.ownBlock = none) (hN : w.heap.size ≤ N) :
    At w1 g 66 #[p.vl, p.va, .string s.member, p.vc, p.vk, .bool s.poured] ∧ RDone w (w1.setCell ⟨g, 3, none⟩ v') g { s with open_ := l } p := by
  have d := RDjs.iff.1 hs.sep
  have hat1 : At w1 g 66 #[p.vl, p.va, .string s.member, p.vc, p.vk, .bool s.poured] := (hga.block g hs.own.lt (fun e => d.g3 g rfl e.symm)).trans hs.own
  refine ⟨hat1, ?_⟩
  have kp : ∀ o : Option Nat, Dj (some g) o → Dj o p.vc.ownBlock → (∀ x, o = some x → x < w.heap.size) → ∀ x, o = some x → (w1.setCell ⟨g, 3, none⟩ v').heap[x]? = w.heap[x]? := fun o h1 h2 h3 x e => (Below.heap_setCell _ _ _ _ (fun hx => h1 x (by rw [hx]) e)).trans (hga.block x (h3 x e) (fun e2 => h2 x e e2.symm))
  refine hs.remake _ ⟨p.vl, p.va, v', p.vk⟩ N hN (by simpa using hat1.put 3 v') rfl rfl (kp _ d.g1 d.l3 fun x e => hs.ltl e) (hs.wher.keep (kp _ d.g2 d.a3 fun x e => hs.wher.lt e)) rfl (Row.keep (show Row w1 _ 1 encS v' l from ho1) fun x e => Below.heap_setCell _ _ _ _ (fun hx => by
    have hx : x = g := hx
    rcases hloc with q | q | q
    · exact d.g3 g rfl (by rw [← q, e, hx])
    · rw [q] at e
      injection e with e
      have := hs.own.lt
      omega
    · rw [q] at e
      cases e)) hloc (hs.ents.keep (kp _ d.g4 d.c4.symm fun x e => hs.ents.lt e)) (.inl rfl) (.inr rfl) ?_
  exact Frm.trans (F' := p.fp g) (Frm.of_grown hga (.inl (by simp [RV.fp]))) (Frm.of_set (by simp [RV.fp]) _) (fun x h => .inl h)

theorem moves_any (k : Int) (hk : k = 1 ∨ k = 2 ∨ k = 6) (w : World) : Calls Tryz.prog 51 #[.int .i64 k] w fun e w' => e = .returned (.tuple #[.int .i64 (if k = 1 then 0 else 1), .int .i64 (if k = 1 then 1 else if k = 2 then 2 else 0)]) ∧ w = w' := by
  rcases hk with rfl | rfl | rfl
  · go_enter Tryz.func51, Tryz.ntmps51
    go_wp2_with fail
    exact bodyPost_ret (v := .tuple #[.int .i64 0, .int .i64 1]) (by simp [results, Tryz.results51, go_sem]) rfl ⟨rfl, rfl⟩
  · go_enter Tryz.func51, Tryz.ntmps51
    go_wp2_with fail
    exact bodyPost_ret (v := .tuple #[.int .i64 1, .int .i64 2]) (by simp [results, Tryz.results51, go_sem]) rfl ⟨rfl, rfl⟩
  · go_enter Tryz.func51, Tryz.ntmps51
    go_wp2_with fail
    exact bodyPost_ret (v := .tuple #[.int .i64 1, .int .i64 0]) (by simp [results, Tryz.results51, go_sem]) rfl ⟨rfl, rfl⟩

set_option maxRecDepth 100000 in
set_option maxHeartbeats 2000000 in
theorem given_any (s : St) (hok : s.ok) (xd xk : Int) (xn : ByteArray) (hz : xn.size ≤ 60) (g : Nat) (p : RV) (w : World) (hs : RefW w g s p) :
    Calls Tryz.prog 49 #[.pointer (some ⟨g, 0, none⟩), .agg #[.int .i64 xd, .int .i64 xk, .string xn]] w fun e w' => e = .returned (.int .i64 (givenS s ⟨xd, xk, xn⟩)) ∧ Below w.heap.size w w' := by
  obtain ⟨R, hgv⟩ : ∃ R, givenS s ⟨xd, xk, xn⟩ = R := ⟨_, rfl⟩
  rw [hgv]
  have hs0 := Lib.hid hs
  obtain ⟨b, hb⟩ : ∃ b, logV [⟨xd, xk, xn⟩] = b := ⟨_, rfl⟩
  have HV := Lib.hid (fun (q : Nat) u hr => jvalid43_any [⟨xd, xk, xn⟩] (some ⟨q, 0, none⟩) 1 (Nat.le_refl _) (by omega) (Lib.hid (fun x hx => by rw [List.mem_singleton.1 hx]; show xn.size ≤ _; omega)) u (Lib.hid hr))
  rw [hb] at HV
  unfold givenS at hgv
  rw [hb] at hgv
  have hkn := hok.keptN
  obtain ⟨n, hn⟩ : ∃ n, s.kept.length = n := ⟨_, rfl⟩
  rw [hn] at hkn hgv
  obtain ⟨ao, cap, hve, hlc, -, -, -⟩ := hs.ents.view encE_len
  rw [hn] at hve hlc
  clear hs hb
  go_enter Tryz.func49, Tryz.ntmps49
  go_wp2_with fail
  refine (HV.out (w.heap.size + 1) _ ?hra).mono ?_
  case hra =>
    intro k hk
    have hk0 : k = 0 := by simpa using hk
    subst hk0
    refine ⟨w.heap.size + 1, 0, rfl, by simp, fun j u hu => ?_⟩
    rw [(At.new' (w := w.alloc _) (n := w.heap.size + 1) (by simp)).c]
    simpa [encE] using hu
  rintro e w1 ⟨rfl, rfl⟩
  generalize hWW : World.alloc _ _ = w1
  have kx : At w1 w.heap.size 39 #[.int .i64 xd, .int .i64 xk, .string xn] := by rw [← hWW]; exact At.al (At.new' rfl) _
  have HB : Below w.heap.size w w1 := by rw [← hWW]; exact below_al (below_al (Below.refl _ _) _) _
  clear hWW HV
  obtain ⟨x0, x1, x2⟩ := kx.three
  have z4 : w1.cell? ⟨g, 4, none⟩ = some (.slice ao n cap) := by
    have := (hs0.out.bel HB).own.c 4
    rw [hve] at this
    exact this
  have z5 : w1.cell? ⟨g, 5, none⟩ = some (.bool s.poured) := (hs0.out.bel HB).own.c 5
  cases b
  · have hE : Hid (R = 1) := Lib.hid (by rw [if_pos rfl] at hgv; exact hgv.symm)
    clear hgv
    go_wp2_with fail
    go_ret
    exact ⟨by rw [hE.out]; rfl, HB⟩
  rw [if_neg (by decide)] at hgv
  by_cases t1 : n = 1000
  · have hE : Hid (R = 4) := Lib.hid (by rw [if_pos (by omega)] at hgv; exact hgv.symm)
    subst t1
    clear hgv
    go_wp2_with fail
    go_ret
    exact ⟨by rw [hE.out]; rfl, HB⟩
  rw [if_neg (by omega)] at hgv
  have t1' : ((n : Int) == 1000) = false := by simp; omega
  obtain ⟨ld, hld⟩ : ∃ ld, lastDay s.kept = ld := ⟨_, rfl⟩
  rw [hld] at hgv
  have K0 := cell_regrown x0
  have K4 := cell_regrown z4
  have hprev : ∀ m, n = m + 1 → ∃ ga, ao = some ⟨ga, 0, none⟩ ∧ w1.cell? ⟨ga, m * 3, none⟩ = some (.int .i64 ld) := fun m h0 => by
    have hse := (hs0.out.bel HB).ents
    rw [hve] at hse
    obtain ⟨ga, _, e, c0, _, _, _⟩ := (hse.at encE_len).ent m (by omega)
    obtain ⟨ga', cap', hv', _⟩ := (hs0.out.ents).blk (by omega)
    rw [hve, e] at hv'
    simp only [Value.slice.injEq, Option.some.injEq, Addr.mk.injEq, and_true] at hv'
    obtain ⟨⟨rfl, rfl⟩, -, -⟩ := hv'
    refine ⟨ga, e, ?_⟩
    rw [Nat.zero_add] at c0
    rw [c0, ← hld]
    have := lastDay_prev (l := s.kept) (k := n) (j := m) (by omega) (by omega)
    rw [List.take_of_length_le (by omega)] at this
    rw [this]
  go_upto_region 6 with fail
  by_cases n0 : 0 < n
  · obtain ⟨m, rfl⟩ : ∃ m, n = m + 1 := ⟨n - 1, by omega⟩
    obtain ⟨ga, rfl, pc⟩ := hprev m rfl
    have P0 := cell_regrown pc
    have hw1 : IntKind.i64.wrap (((m + 1 : Nat) : Int) - 1) = (m : Int) := by rw [IntWalk.i64_in _ (by omega)]; omega
    have hg1 : decide ((0 : Int) < ((m + 1 : Nat) : Int)) = true := by simp
    by_cases t2 : xd < ld
    · have hE : Hid (R = 17) := Lib.hid (by rw [if_pos ⟨n0, t2⟩] at hgv; exact hgv.symm)
      clear hgv
      refine wp_region_quiet_below (by kernel_rfl) (by kernel_rfl) ?_
      repeat (go_big_quiet_step (fail))
      refine wpQuiet_nil ?_
      intro v hb'
      have hb := below_of_regrown hb'
      have y5 := cell_up hb z5
      replace HB := below_then HB hb
      clear hb' hb K0 K4 x0 x1 x2 z4 z5
      go_wp2_with fail
      go_ret
      exact ⟨by rw [hE.out]; rfl, HB⟩
    rw [if_neg (fun h => t2 h.2)] at hgv
    refine wp_region_quiet_below (by kernel_rfl) (by kernel_rfl) ?_
    repeat (go_big_quiet_step (fail))
    refine wpQuiet_nil ?_
    intro v hb'
    have hb := below_of_regrown hb'
    have y5 := cell_up hb z5
    replace HB := below_then HB hb
    clear hb' hb K0 K4 x0 x1 x2 z4 z5
    cases hp : s.poured
    rotate_left
    · rw [hp] at y5 hgv
      have hE : Hid (R = 13) := Lib.hid (by rw [if_pos rfl] at hgv; exact hgv.symm)
      clear hgv hp
      go_wp2_with fail
      go_ret
      exact ⟨by rw [hE.out]; rfl, HB⟩
    rw [hp] at y5 hgv
    have hE : Hid (R = 0) := Lib.hid (by rw [if_neg (by decide)] at hgv; exact hgv.symm)
    clear hgv hp
    go_wp2_with fail
    go_ret
    exact ⟨by rw [hE.out]; rfl, HB⟩
  · have n00 : n = 0 := by omega
    subst n00
    rw [if_neg (fun h => n0 h.1)] at hgv
    refine wp_region_quiet_below (by kernel_rfl) (by kernel_rfl) ?_
    repeat (go_big_quiet_step (fail))
    refine wpQuiet_nil ?_
    intro v hb'
    have hb := below_of_regrown hb'
    have y5 := cell_up hb z5
    replace HB := below_then HB hb
    clear hb' hb K0 K4 x0 x1 x2 z4 z5
    cases hp : s.poured
    rotate_left
    · rw [hp] at y5 hgv
      have hE : Hid (R = 13) := Lib.hid (by rw [if_pos rfl] at hgv; exact hgv.symm)
      clear hgv hp
      go_wp2_with fail
      go_ret
      exact ⟨by rw [hE.out]; rfl, HB⟩
    rw [hp] at y5 hgv
    have hE : Hid (R = 0) := Lib.hid (by rw [if_neg (by decide)] at hgv; exact hgv.symm)
    clear hgv hp
    go_wp2_with fail
    go_ret
    exact ⟨by rw [hE.out]; rfl, HB⟩

end Go.Proofs.YtpocmijfkjjboaaGreatDoor
