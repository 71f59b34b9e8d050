/- journal: the reference's Good, Decode. -/
import Derived.Test.YtdcfpopbnkafaaaDoorJoL
set_option linter.unusedVariables false
namespace Go.Proofs.YtdcfpopbnkafaaaDoor
open Go.ChangeShapes Go.WideShapes Go.ChangeAt Go.RowKit

open Go.Lib (decDigits itoa itoa_nonneg)
theorem jvalid43_own {w : World} {base : Nat} {v : Value} {l : List Ent} (h : w.ownsRow base 24 3 v l.length (l.flatMap encE)) (hs : ∀ x ∈ l, x.name.size ≤ 10000) :
    Calls Tryd.prog 18 #[v] w fun e w' => e = .returned (.bool (logV l)) ∧ w = w' := by
  have h2 : Row w 24 3 encE v l := ⟨h.1, h.2.imp id fun ⟨g, cap, cur, h1, _, h3⟩ => ⟨g, cap, cur, h1, Nat.zero_le _, h3⟩⟩
  obtain ⟨ao, cap, rfl, h4, h5, h6, h7⟩ := h2.view encE_len
  exact jvalid43_any l ao cap h4 h5 (Lib.hid fun x hx => by have := hs x hx; omega) w (Lib.hid h6)
theorem lineN_cut (r : List UInt8) : lineN r = match cutN r with | some m => m.length + 1 | none => 0 := rfl
theorem cut_take {r m : List UInt8} (h : cutN r = some m) : r.take m.length = m ∧ m.length + 1 ≤ r.length := by
  obtain ⟨_, u, rfl⟩ := cutN_iff.1 h
  exact ⟨List.take_left, by simp⟩
theorem ent_read {r m : List UInt8} (h : cutN r = some m) : (readO m = none → entO r = none) ∧ ∀ x t, readO m = some (x, t) → entO r = some (x, t, m.length + 1) := by
  rw [entO_cut h]
  exact ⟨fun h => by rw [h], fun x t h => by rw [h]⟩
/-- The bytes around the last space of a line. -/
theorem line_bytes {x : Ent} {t : Nat} (hw : WordsOk x) (p u : List UInt8) (j : Nat) (hj : j ≤ (decDigits t).length) :
    ∃ (c : UInt8) (hk : p.length + (lineE x).length + j - 1 < (p ++ (lineE x ++ (decDigits t ++ 10 :: u))).length), (p ++ (lineE x ++ (decDigits t ++ 10 :: u)))[p.length + (lineE x).length + j - 1] = c ∧ (c = 32 ↔ j = 0) := by
  have hl : 1 ≤ (lineE x).length := by unfold lineE; simp; omega
  have hk : p.length + (lineE x).length + j - 1 < (p ++ (lineE x ++ (decDigits t ++ 10 :: u))).length := by simp; omega
  refine ⟨_, hk, rfl, ?_⟩
  rw [List.getElem_append_right (by omega)]
  cases j with
  | zero =>
    have e : (lineE x)[(lineE x).length - 1]'(by omega) = 32 := by
      obtain ⟨Y, hY⟩ : ∃ Y, lineE x = Y ++ [32] := ⟨itoa x.day ++ 32 :: (itoa x.kind ++ 32 :: by_ x.name), by unfold lineE; simp⟩
      simp [hY]
    have e2 : p.length + (lineE x).length + 0 - 1 - p.length = (lineE x).length - 1 := by omega
    rw [List.getElem_append_left (by omega)]
    simp only [e2, e]
  | succ i =>
    have e2 : p.length + (lineE x).length + (i + 1) - 1 - p.length = (lineE x).length + i := by omega
    simp only [e2]
    rw [List.getElem_append_right (by omega), List.getElem_append_left (by omega)]
    have := dec_noB (c := 32) (by decide) t _ (List.getElem_mem (l := decDigits t) (n := (lineE x).length + i - (lineE x).length) (by omega))
    constructor
    · intro h; exact absurd h this
    · intro h; omega
set_option maxRecDepth 100000 in
set_option maxHeartbeats 4000000 in
theorem refgood_v (b : List UInt8) (v : Value) (hbl : b.length ≤ 1000000) (w : World) (hv : IsB b v w) :
    Calls Tryd.prog 27 #[v] w fun e w' => (∃ y, e = .returned (.tuple #[y, .int .i64 ((goodJ b).2.1 : Nat), .int .i64 (goodJ b).2.2]) ∧ Hid (w'.ownsRow w.heap.size 24 3 y (goodJ b).1.length ((goodJ b).1.flatMap encE))) ∧ Below w.heap.size w w' := by
  obtain ⟨i0, hi, hz0, hz1, hz2⟩ := info_parts infoEnt
  obtain ⟨a, n, c, rfl, hn0, hnc, hcm⟩ := hv.shape
  have hv0 := Lib.hid hv
  have hbl0 := Lib.hid hbl
  replace hn0 := Lib.hid hn0
  obtain ⟨G, hG⟩ : ∃ G, goodJ b = G := ⟨_, rfl⟩
  rw [hG]
  replace hG := Lib.hid hG
  have hn6 : n ≤ 1000000 := by rw [hn0.out]; exact hbl
  clear hv hbl
  go_enter Tryd.func27, Tryd.ntmps27
  go_wp2_with fail
  go_loopg [6, 5] n (fun g i y wr => ∃ (at_ : Nat) (l : List Ent) (v0 : Value) (fu : Nat), v0 = y ∧ at_ ≤ n ∧ i = .int .i64 (at_ : Int) ∧ Hid (g = n - at_) ∧ Hid (goodF fu b at_ l = G ∧ n ≤ fu + at_ ∧ l.length ≤ 1000 ∧ ∀ x ∈ l, x.name.size ≤ 10000) ∧ Below w.heap.size w wr ∧ Hid (wr.ownsRow w.heap.size 24 3 y l.length (l.flatMap encE)))
  case atStart => exact ⟨0, [], _, n, rfl, Nat.zero_le _, rfl, Lib.hid rfl, Lib.hid ⟨by rw [hn0.out]; exact hG.out, by omega, by simp, by simp⟩, Below.refl _ _, Lib.hid (World.ownsRow_nil _ _ _ _)⟩
  case round =>
    obtain ⟨at_, l, yv, fu, rfl, hat, rfl, hr, hg, HB, ho⟩ := hrel
    by_cases hlt : at_ < n
    rotate_left
    · have hE : Hid (G = (l, at_, 0)) := Lib.hid (by
        have h1 := hg.out.1
        rw [goodF_end (by have := hn0.out; omega)] at h1
        exact h1.symm)
      go_wp2_with fail
      exact bodyPost_ret (v := .tuple #[yv, .int .i64 (at_ : Int), .int .i64 0]) (by simp [results, Tryd.results27, go_sem]) rfl ⟨⟨yv, by rw [hE.out], by rw [hE.out]; exact ho⟩, HB⟩
    have hbl' : Hid (at_ < b.length) := Lib.hid (by rw [← hn0.out]; exact hlt)
    obtain ⟨fu, rfl⟩ : ∃ k, fu = k + 1 := ⟨fu - 1, by have := hg.out.2.1; omega⟩
    have hstop : ∀ er, nextJ (b.take at_) l (b.drop at_) = .error er → Hid (G = (l, at_, er)) := fun er h => Lib.hid (by
      have h1 := hg.out.1
      rw [goodF_stop hbl'.out h] at h1
      exact h1.symm)
    replace hstop := Lib.hid hstop
    obtain ⟨A1, hs1, hB1⟩ := (hv0.out.up HB).lo at_ hat
    have HL := Lib.hid (line_v (b.drop at_) _ wr hB1)
    rw [lineN_cut] at HL
    clear hB1
    cases hcut : cutN (b.drop at_) with
    | none =>
      rw [hcut] at HL
      have hE := hstop.out 7 (by unfold nextJ; rw [entO_nocut hcut])
      clear hcut
      go_wp2_with fail
      refine HL.out.mono ?_
      rintro e w1 ⟨rfl, rfl⟩
      go_wp2_with fail
      exact bodyPost_ret (v := .tuple #[yv, .int .i64 (at_ : Int), .int .i64 7]) (by simp [results, Tryd.results27, go_sem]) rfl ⟨⟨yv, by rw [hE.out], by rw [hE.out]; exact ho⟩, HB⟩
    | some m =>
      rw [hcut] at HL
      dsimp only at HL
      obtain ⟨hmt, hml⟩ := cut_take hcut
      obtain ⟨her1, her2⟩ := ent_read hcut
      rw [List.length_drop] at hml
      obtain ⟨M, hM⟩ : ∃ M, m.length = M := ⟨_, rfl⟩
      rw [hM] at HL hml hmt her2
      obtain ⟨e, he⟩ : ∃ e, at_ + M = e := ⟨_, rfl⟩
      have hen : e + 1 ≤ n := by have := hn0.out; omega
      have w1 : IntKind.i64.wrap ((at_ : Int) + ((M + 1 : Nat) : Int)) = (e : Int) + 1 := by rw [IntWalk.i64_in _ (by omega)]; omega
      have w1' : IntKind.i64.wrap ((at_ : Int) + ((M : Int) + 1)) = (e : Int) + 1 := by rw [IntWalk.i64_in _ (by omega)]; omega
      have w2 : IntKind.i64.wrap ((e : Int) + 1 - 1) = (e : Int) := by rw [IntWalk.i64_in _ (by omega)]; omega
      have w2' : IntKind.i64.wrap (e : Int) = (e : Int) := IntWalk.i64_in _ (by omega)
      obtain ⟨A2, hs2, hB2⟩ := (hv0.out.up HB).lh at_ e (by omega) (by omega)
      rw [show e - at_ = M by omega, hmt] at hB2
      have hcv : (convert 22 9 (.slice A2 (e - at_) (c - at_))).run Tryd.prog wr = .ok (.string ⟨m.toArray⟩) wr := by rw [show e - at_ = M by omega]; exact hB2.str
      obtain ⟨ms, hms⟩ : ∃ ms : ByteArray, (⟨m.toArray⟩ : ByteArray) = ms := ⟨_, rfl⟩
      have hmb : by_ ms = m := by rw [← hms]
      rw [hms] at hcv
      have HR := Lib.hid (refread_v ms (by rw [← by_len, hmb, hM]; omega) wr)
      rw [hmb] at HR
      have hmM : ((M : Int) + 1 == 0) = false := by simp; omega
      clear hB2 hms hmb hcut hmt
      go_wp2_with fail
      refine HL.out.mono ?_
      rintro e1 wq ⟨rfl, rfl⟩
      clear HL
      go_wp2_with fail
      refine HR.out.mono ?_
      rintro e1 wr2 ⟨⟨xd, xk, xn, sv, ok, rfl, q1, q2, q3⟩, hb2⟩
      replace ho := Lib.hid (World.ownsRow_up ho.out hb2)
      replace HB := below_then HB hb2
      clear hb2 HR hs1 hs2 hcv
      go_upto_region 8 with fail
      generalize hWW : World.alloc _ _ = W3
      have kx : At W3 wr2.heap.size 24 #[.int .i64 xd, .int .i64 xk, .string xn] := by rw [← hWW]; exact At.new' rfl
      have hbW : Below wr2.heap.size wr2 W3 := by rw [← hWW]; exact below_al (Below.refl _ _) _
      clear hWW
      have HB3 := below_then HB hbW
      replace ho := Lib.hid (World.ownsRow_up ho.out hbW)
      clear hbW HB
      cases hrd : readO m with
      | none =>
        have hok := q2.out hrd
        subst hok
        have hE := hstop.out 7 (by unfold nextJ; rw [her1 hrd])
        clear hrd q1 q2 her1 her2
        go_wp2_with fail
        exact bodyPost_ret (v := .tuple #[yv, .int .i64 (at_ : Int), .int .i64 7]) (by simp [results, Tryd.results27, go_sem]) rfl ⟨⟨yv, by rw [hE.out], by rw [hE.out]; exact ho⟩, HB3⟩
      | some r =>
        obtain ⟨x, t⟩ := r
        obtain ⟨rfl, rfl, rfl⟩ := q1.out _ _ hrd
        have hent := her2 _ _ hrd
        obtain ⟨hMe, ⟨u, hu⟩, hwk, htl⟩ := entO_iff.1 hent
        obtain ⟨LL, hLL⟩ : ∃ LL, (lineE ⟨xd, xk, xn⟩).length = LL := ⟨_, rfl⟩
        obtain ⟨D, hD⟩ : ∃ D, (decDigits t).length = D := ⟨_, rfl⟩
        have hLp : 1 ≤ LL := by rw [← hLL]; unfold lineE; simp; omega
        rw [List.length_append, hLL, hD] at hMe
        obtain ⟨f, hf⟩ : ∃ f, at_ + LL = f := ⟨_, rfl⟩
        have hfe : f + D = e := by omega
        have hbdec : b = b.take at_ ++ (lineE ⟨xd, xk, xn⟩ ++ (decDigits t ++ 10 :: u)) := by rw [← hu, List.take_append_drop]
        have htk : (b.take at_).length = at_ := by rw [List.length_take]; have := hn0.out; omega
        have hbyte : Hid (∀ j, j ≤ D → ∃ (c : UInt8) (hk : f + j - 1 < b.length), b[f + j - 1]'hk = c ∧ (c = 32 ↔ j = 0)) := Lib.hid (by
          intro j hj
          obtain ⟨c, hk, h1, h2⟩ := line_bytes hwk (b.take at_) u j (by rw [hD]; exact hj)
          simp only [htk, hLL, hf, ← hbdec] at hk h1
          exact ⟨c, hk, h1, h2⟩)
        obtain ⟨A3, hs3, hB3⟩ := (hv0.out.up HB3).hi f (by omega)
        have hpre : b.take f = b.take at_ ++ lineE ⟨xd, xk, xn⟩ := by
          have h1 := congrArg (List.take f) hbdec
          rw [h1, List.take_append, htk, List.take_of_length_le (l := b.take at_) (by omega), show f - at_ = LL by omega, List.take_left' hLL]
        have HSu := Lib.hid (refsum_v _ _ W3 hB3)
        obtain ⟨S, hS⟩ : ∃ S, sumB (b.take f) = S := ⟨_, rfl⟩
        rw [hS] at HSu
        have hSS : sumF (sumB (b.take at_)) (lineE ⟨xd, xk, xn⟩) = S := by rw [← hS, hpre]; exact (sumF_app 7 _ _).symm
        have hwk2 := hwk.bd.2
        have hnm : Hid (xn.size ≤ 10000) := Lib.hid (by dsimp only at hwk2; omega)
        have hll : Hid (l.length ≤ 1000) := Lib.hid hg.out.2.2.1
        have hnml : Hid (∀ x ∈ l ++ [(⟨xd, xk, xn⟩ : Ent)], x.name.size ≤ 10000) := Lib.hid (by
          intro y hy
          rcases List.mem_append.1 hy with q | q
          · exact hg.out.2.2.2 y q
          · rw [List.mem_singleton] at q; rw [q]; exact hnm.out)
        have hnx : Hid (nextJ (b.take at_) l (b.drop at_) = if t ≠ S then .error 18 else if logV (l ++ [⟨xd, xk, xn⟩]) = false then .error 1 else .ok (⟨xd, xk, xn⟩, M + 1)) := Lib.hid (by
          unfold nextJ
          simp only [hent]
          rw [hSS])
        obtain ⟨hrow3, hform⟩ : RowAt encU 1 W3.heap.size W3 a b ∧ True := by
          obtain ⟨a', c', e', h2, h3, h4, h5⟩ := hv0.out.up HB3
          injection e' with e1 e2 e3
          subst e1
          exact ⟨h4, trivial⟩
        replace hrow3 := Lib.hid hrow3
        have he' := Lib.hid he
        have hfe' := Lib.hid hfe
        have hf' := Lib.hid hf
        have hen' := Lib.hid hen
        have hfn : f + D + 1 ≤ n := by omega
        have hf1 : 1 ≤ f := by omega
        clear hrd hent hMe hu hwk htl hbdec htk hpre hS hSS hwk2 hB3 hLL hD q1 q2 her1 her2 hform hml hM
        have eqe : (e : Int) = ((f + D : Nat) : Int) := by omega
        clear he hfe hf
        go_wp2_with fail
        go_loopg [11] D (fun g i wq => ∃ j : Nat, j ≤ D ∧ i = .int .i64 ((f + j : Nat) : Int) ∧ Hid (g = j) ∧ W3 = wq)
        case atStart => exact ⟨D, Nat.le_refl _, by first | rfl | go_num | (congr 1; omega), Lib.hid rfl, rfl⟩
        case round =>
          clear eqe w1 w1' w2 w2'
          obtain ⟨j, hj, rfl, hgj, rfl⟩ := hrel
          obtain ⟨c, hkb, hcb, hc32⟩ := hbyte.out j hj
          obtain ⟨bb, off, ha, c0, _⟩ := hrow3.out.byte (f + j - 1) hkb
          subst ha
          rw [hcb] at c0
          obtain ⟨q, hq⟩ : ∃ q, f + j - 1 = q := ⟨_, rfl⟩
          rw [hq] at c0
          have wq : IntKind.i64.wrap (((f + j : Nat) : Int) - 1) = (q : Int) := by rw [IntWalk.i64_in _ (by omega)]; omega
          have wq' : IntKind.i64.wrap ((f : Int) + (j : Int) - 1) = (q : Int) := by rw [IntWalk.i64_in _ (by omega)]; omega
          have hqn : q < n := by omega
          cases j with
          | succ i =>
            have hne : ((c.toNat : Int) != 32) = true := by
              rw [bne_iff_ne]
              intro h
              have := hc32.1 (by apply UInt8.toNat_inj.1; have : (32 : UInt8).toNat = 32 := rfl; omega)
              omega
            have hqi : (q : Int) = ((f + i : Nat) : Int) := by omega
            clear hc32 hcb
            go_wp2_with fail
            go_roundg i
            case measure => have := hgj.out; omega
            case rel => exact ⟨i, by omega, by first | rfl | go_num | (congr 1; omega), Lib.hid rfl, rfl⟩
          | zero =>
            have hne : ((c.toNat : Int) != 32) = false := by rw [hc32.2 rfl]; rfl
            clear hc32 hcb
            have wqz : IntKind.i64.wrap ((f : Int) - 1) = (q : Int) := by rw [IntWalk.i64_in _ (by omega)]; omega
            simp only [Nat.add_zero]
            go_wp2_with fail
            refine HSu.out.mono ?_
            rintro e1 wq2 ⟨rfl, rfl⟩
            clear HSu c0 hne wq wq' wqz
            by_cases h6 : t = S
            rotate_left
            · have hE := hstop.out 18 (by rw [hnx.out, if_pos h6])
              have h7 : ((S : Int) != (t : Int)) = true := by simp; omega
              clear h6
              go_wp2_with fail
              exact bodyPost_ret (v := .tuple #[yv, .int .i64 (at_ : Int), .int .i64 18]) (by simp [results, Tryd.results27, go_sem]) rfl ⟨⟨yv, by rw [hE.out], by rw [hE.out]; exact ho⟩, HB3⟩
            subst h6
            have h7 : ((t : Int) != (t : Int)) = false := by simp
            go_upto_region 15 with fail
            go_cut [12] (fun u wc => ∃ ao c, u = .slice ao (l.length + 1) c ∧ Hid (wc.ownsRow W3.heap.size 24 3 (.slice ao (l.length + 1) c) (l ++ [(⟨xd, xk, xn⟩ : Ent)]).length ((l ++ [(⟨xd, xk, xn⟩ : Ent)]).flatMap encE)) ∧ Below W3.heap.size W3 wc)
            case first =>
              obtain ⟨x0, x1, x2⟩ := kx.three
              refine wp_region_noPanic ?_
              refine wp_region_held_drew (S := (fun W => Below W3.heap.size W3 W ∧ At W wr2.heap.size 24 #[.int .i64 xd, .int .i64 xk, .string xn] ∧ W.cell? ⟨wr2.heap.size, 0, none⟩ = some (.int .i64 xd) ∧ W.cell? ⟨wr2.heap.size, 1, none⟩ = some (.int .i64 xk) ∧ W.cell? ⟨wr2.heap.size, 2, none⟩ = some (.string xn))) (by kernel_rfl) ?_ (fun hHeld => ?_)
              · (try dsimp only); (first | ((try go_split_ands); refine ⟨?_, ?_, ?_, ?_, ?_⟩; (focus ((repeat (first | with_reducible assumption | with_reducible exact Below.refl _ _ | with_reducible refine below_al ?_ _ | with_reducible refine below_drew ?_ | with_reducible refine below_drewN ?_ _ | with_reducible refine below_then ?_ hb6)); done)); (focus ((repeat (first | with_reducible assumption | with_reducible apply At.drw | with_reducible refine At.al ?_ _ | with_reducible refine At.bel ?_ hb6)); done)); (focus (first | (with_reducible refine At.c0' (t := 24) (x := .int .i64 xd) (y := .int .i64 xk) (z := .string xn) ?_; (repeat (first | with_reducible assumption | with_reducible apply At.drw | with_reducible refine At.al ?_ _ | with_reducible refine At.bel ?_ hb6)); done) | (with_reducible refine At.c1' (t := 24) (x := .int .i64 xd) (y := .int .i64 xk) (z := .string xn) ?_; (repeat (first | with_reducible assumption | with_reducible apply At.drw | with_reducible refine At.al ?_ _ | with_reducible refine At.bel ?_ hb6)); done) | (with_reducible refine At.c2' (t := 24) (x := .int .i64 xd) (y := .int .i64 xk) (z := .string xn) ?_; (repeat (first | with_reducible assumption | with_reducible apply At.drw | with_reducible refine At.al ?_ _ | with_reducible refine At.bel ?_ hb6)); done) )); (focus (first | (with_reducible refine At.c0' (t := 24) (x := .int .i64 xd) (y := .int .i64 xk) (z := .string xn) ?_; (repeat (first | with_reducible assumption | with_reducible apply At.drw | with_reducible refine At.al ?_ _ | with_reducible refine At.bel ?_ hb6)); done) | (with_reducible refine At.c1' (t := 24) (x := .int .i64 xd) (y := .int .i64 xk) (z := .string xn) ?_; (repeat (first | with_reducible assumption | with_reducible apply At.drw | with_reducible refine At.al ?_ _ | with_reducible refine At.bel ?_ hb6)); done) | (with_reducible refine At.c2' (t := 24) (x := .int .i64 xd) (y := .int .i64 xk) (z := .string xn) ?_; (repeat (first | with_reducible assumption | with_reducible apply At.drw | with_reducible refine At.al ?_ _ | with_reducible refine At.bel ?_ hb6)); done) )); (focus (first | (with_reducible refine At.c0' (t := 24) (x := .int .i64 xd) (y := .int .i64 xk) (z := .string xn) ?_; (repeat (first | with_reducible assumption | with_reducible apply At.drw | with_reducible refine At.al ?_ _ | with_reducible refine At.bel ?_ hb6)); done) | (with_reducible refine At.c1' (t := 24) (x := .int .i64 xd) (y := .int .i64 xk) (z := .string xn) ?_; (repeat (first | with_reducible assumption | with_reducible apply At.drw | with_reducible refine At.al ?_ _ | with_reducible refine At.bel ?_ hb6)); done) | (with_reducible refine At.c2' (t := 24) (x := .int .i64 xd) (y := .int .i64 xk) (z := .string xn) ?_; (repeat (first | with_reducible assumption | with_reducible apply At.drw | with_reducible refine At.al ?_ _ | with_reducible refine At.bel ?_ hb6)); done) ))) | go_keep)
              refine wpAnyH_take (i := 1) (v := ?_) (by simp only [List.getElem?_toArray, List.getElem?_cons_succ, List.getElem?_cons_zero]; rfl) (by kernel_rfl) (by kernel_rfl) (by kernel_rfl) (fun _ _ _ h => h) (Or.inl ⟨by rfl, ?_⟩) (by assumption) ?_
              rotate_left
              focus (intro w hSw; (try dsimp only at hSw); go_simp; first | done | with_reducible rfl)
              (try simp only [Act.put, List.setIfInBounds_toArray, List.set_cons_zero, List.set_cons_succ])
              refine wpAnyH_take (i := 3) (v := ?_) (by simp only [List.getElem?_toArray, List.getElem?_cons_succ, List.getElem?_cons_zero]; rfl) (by kernel_rfl) (by kernel_rfl) (by kernel_rfl) (fun _ _ _ h => h) (Or.inl ⟨by rfl, ?_⟩) (by assumption) ?_
              rotate_left
              focus (intro w hSw; (try dsimp only at hSw); go_simp; first | done | with_reducible rfl)
              (try simp only [Act.put, List.setIfInBounds_toArray, List.set_cons_zero, List.set_cons_succ])
              refine wpAnyH_ready (rs := [0, 4]) (by kernel_rfl) (by simp) ?_
              refine AllReadyH.cons (i := 0) (by simp only [List.getElem?_toArray, List.getElem?_cons_zero]; rfl) (fun K hK => ?_) ?_
              · go_simp
                refine hK.out _ _ ?_ (fun hHeld => ?_)
                · (try dsimp only); (first | ((try go_split_ands); refine ⟨?_, ?_, ?_, ?_, ?_⟩; (focus ((repeat (first | with_reducible assumption | with_reducible exact Below.refl _ _ | with_reducible refine below_al ?_ _ | with_reducible refine below_drew ?_ | with_reducible refine below_drewN ?_ _ | with_reducible refine below_then ?_ hb6)); done)); (focus ((repeat (first | with_reducible assumption | with_reducible apply At.drw | with_reducible refine At.al ?_ _ | with_reducible refine At.bel ?_ hb6)); done)); (focus (first | (with_reducible refine At.c0' (t := 24) (x := .int .i64 xd) (y := .int .i64 xk) (z := .string xn) ?_; (repeat (first | with_reducible assumption | with_reducible apply At.drw | with_reducible refine At.al ?_ _ | with_reducible refine At.bel ?_ hb6)); done) | (with_reducible refine At.c1' (t := 24) (x := .int .i64 xd) (y := .int .i64 xk) (z := .string xn) ?_; (repeat (first | with_reducible assumption | with_reducible apply At.drw | with_reducible refine At.al ?_ _ | with_reducible refine At.bel ?_ hb6)); done) | (with_reducible refine At.c2' (t := 24) (x := .int .i64 xd) (y := .int .i64 xk) (z := .string xn) ?_; (repeat (first | with_reducible assumption | with_reducible apply At.drw | with_reducible refine At.al ?_ _ | with_reducible refine At.bel ?_ hb6)); done) )); (focus (first | (with_reducible refine At.c0' (t := 24) (x := .int .i64 xd) (y := .int .i64 xk) (z := .string xn) ?_; (repeat (first | with_reducible assumption | with_reducible apply At.drw | with_reducible refine At.al ?_ _ | with_reducible refine At.bel ?_ hb6)); done) | (with_reducible refine At.c1' (t := 24) (x := .int .i64 xd) (y := .int .i64 xk) (z := .string xn) ?_; (repeat (first | with_reducible assumption | with_reducible apply At.drw | with_reducible refine At.al ?_ _ | with_reducible refine At.bel ?_ hb6)); done) | (with_reducible refine At.c2' (t := 24) (x := .int .i64 xd) (y := .int .i64 xk) (z := .string xn) ?_; (repeat (first | with_reducible assumption | with_reducible apply At.drw | with_reducible refine At.al ?_ _ | with_reducible refine At.bel ?_ hb6)); done) )); (focus (first | (with_reducible refine At.c0' (t := 24) (x := .int .i64 xd) (y := .int .i64 xk) (z := .string xn) ?_; (repeat (first | with_reducible assumption | with_reducible apply At.drw | with_reducible refine At.al ?_ _ | with_reducible refine At.bel ?_ hb6)); done) | (with_reducible refine At.c1' (t := 24) (x := .int .i64 xd) (y := .int .i64 xk) (z := .string xn) ?_; (repeat (first | with_reducible assumption | with_reducible apply At.drw | with_reducible refine At.al ?_ _ | with_reducible refine At.bel ?_ hb6)); done) | (with_reducible refine At.c2' (t := 24) (x := .int .i64 xd) (y := .int .i64 xk) (z := .string xn) ?_; (repeat (first | with_reducible assumption | with_reducible apply At.drw | with_reducible refine At.al ?_ _ | with_reducible refine At.bel ?_ hb6)); done) ))) | go_keep)
                clear hK K
                (try simp only [Act.put, List.setIfInBounds_toArray, List.set_cons_zero, List.set_cons_succ])
                refine wpAnyH_ready (rs := [2, 4]) (by kernel_rfl) (by simp) ?_
                refine AllReadyH.cons (i := 2) (by simp only [List.getElem?_toArray, List.getElem?_cons_succ, List.getElem?_cons_zero]; rfl) (fun K hK => ?_) ?_
                · (refine step_append_any _ rfl (.tmp 62) (.tmp 63) 34 rfl W3.heap.size 24 i0 (.agg #[.int .i64 0, .int .i64 0, .string ⟨#[]⟩]) 3 32 Tryd.underlying34 hi hz0 hz1 hz2 rfl (by decide) (.slice (some ⟨W3.heap.size, 0, none⟩) 0 0) 0 [] (by first | rfl | (simp [Act.eval]; done)) (own_empty (by first | exact At.new _ _ _ | exact At.new' rfl | exact At.al (At.new' rfl) _ | exact At.drw (At.new' rfl) | exact At.new' (by simp)) (by first | exact Nat.le_refl _ | (simp; done) | (simp; omega))) yv l.length (l.flatMap encE) (by first | rfl | (simp [Act.eval]; done)) (row_srcE (World.ownsRow_up ho.out (by go_split_ands; repeat (first | with_reducible assumption | with_reducible exact Below.refl _ _ | with_reducible refine below_al ?_ _ | with_reducible refine below_drew ?_ | with_reducible refine below_drewN ?_ _ | with_reducible refine below_then ?_ hb6)))) (by have := hll.out; unfold maxLen; omega) (by have := hll.out; omega) (Below.size (B := W3.heap.size) (w := W3) (by go_split_ands; repeat (first | with_reducible assumption | with_reducible exact Below.refl _ _ | with_reducible refine below_al ?_ _ | with_reducible refine below_drew ?_ | with_reducible refine below_drewN ?_ _ | with_reducible refine below_then ?_ hb6))) ?_; intro a5 c5 w5 ho5 hg5; have hB9 : Below W3.heap.size W3 w5 := below_grown (by go_split_ands; repeat (first | with_reducible assumption | with_reducible exact Below.refl _ _ | with_reducible refine below_al ?_ _ | with_reducible refine below_drew ?_ | with_reducible refine below_drewN ?_ _ | with_reducible refine below_then ?_ hb6)) hg5 (fun j hj => by have hj : some (W3.heap.size) = some j := hj; injection hj with hj; first | omega | (simp at hj; omega)); have kx9 : At w5 wr2.heap.size 24 #[.int .i64 xd, .int .i64 xk, .string xn] := At.bel kx hB9)
                  refine hK.out _ _ ?_ (fun hHeld => ?_)
                  · (try dsimp only); (first | ((try go_split_ands); refine ⟨?_, ?_, ?_, ?_, ?_⟩; (focus ((repeat (first | with_reducible assumption | with_reducible exact Below.refl _ _ | with_reducible refine below_al ?_ _ | with_reducible refine below_drew ?_ | with_reducible refine below_drewN ?_ _ | with_reducible refine below_then ?_ hb6)); done)); (focus ((repeat (first | with_reducible assumption | with_reducible apply At.drw | with_reducible refine At.al ?_ _ | with_reducible refine At.bel ?_ hb6)); done)); (focus (first | (with_reducible refine At.c0' (t := 24) (x := .int .i64 xd) (y := .int .i64 xk) (z := .string xn) ?_; (repeat (first | with_reducible assumption | with_reducible apply At.drw | with_reducible refine At.al ?_ _ | with_reducible refine At.bel ?_ hb6)); done) | (with_reducible refine At.c1' (t := 24) (x := .int .i64 xd) (y := .int .i64 xk) (z := .string xn) ?_; (repeat (first | with_reducible assumption | with_reducible apply At.drw | with_reducible refine At.al ?_ _ | with_reducible refine At.bel ?_ hb6)); done) | (with_reducible refine At.c2' (t := 24) (x := .int .i64 xd) (y := .int .i64 xk) (z := .string xn) ?_; (repeat (first | with_reducible assumption | with_reducible apply At.drw | with_reducible refine At.al ?_ _ | with_reducible refine At.bel ?_ hb6)); done) )); (focus (first | (with_reducible refine At.c0' (t := 24) (x := .int .i64 xd) (y := .int .i64 xk) (z := .string xn) ?_; (repeat (first | with_reducible assumption | with_reducible apply At.drw | with_reducible refine At.al ?_ _ | with_reducible refine At.bel ?_ hb6)); done) | (with_reducible refine At.c1' (t := 24) (x := .int .i64 xd) (y := .int .i64 xk) (z := .string xn) ?_; (repeat (first | with_reducible assumption | with_reducible apply At.drw | with_reducible refine At.al ?_ _ | with_reducible refine At.bel ?_ hb6)); done) | (with_reducible refine At.c2' (t := 24) (x := .int .i64 xd) (y := .int .i64 xk) (z := .string xn) ?_; (repeat (first | with_reducible assumption | with_reducible apply At.drw | with_reducible refine At.al ?_ _ | with_reducible refine At.bel ?_ hb6)); done) )); (focus (first | (with_reducible refine At.c0' (t := 24) (x := .int .i64 xd) (y := .int .i64 xk) (z := .string xn) ?_; (repeat (first | with_reducible assumption | with_reducible apply At.drw | with_reducible refine At.al ?_ _ | with_reducible refine At.bel ?_ hb6)); done) | (with_reducible refine At.c1' (t := 24) (x := .int .i64 xd) (y := .int .i64 xk) (z := .string xn) ?_; (repeat (first | with_reducible assumption | with_reducible apply At.drw | with_reducible refine At.al ?_ _ | with_reducible refine At.bel ?_ hb6)); done) | (with_reducible refine At.c2' (t := 24) (x := .int .i64 xd) (y := .int .i64 xk) (z := .string xn) ?_; (repeat (first | with_reducible assumption | with_reducible apply At.drw | with_reducible refine At.al ?_ _ | with_reducible refine At.bel ?_ hb6)); done) ))) | go_keep)
                  clear hK K
                  (try simp only [Act.put, List.setIfInBounds_toArray, List.set_cons_zero, List.set_cons_succ])
                  refine wpAnyH_ready (rs := [4]) (by kernel_rfl) (by simp) ?_
                  refine AllReadyH.cons (i := 4) (by simp only [List.getElem?_toArray, List.getElem?_cons_succ, List.getElem?_cons_zero]; rfl) (fun K hK => ?_) ?_
                  · go_simp
                    refine hK.out _ _ ?_ (fun hHeld => ?_)
                    · (try dsimp only); (first | ((try go_split_ands); refine ⟨?_, ?_, ?_, ?_, ?_⟩; (focus ((repeat (first | with_reducible assumption | with_reducible exact Below.refl _ _ | with_reducible refine below_al ?_ _ | with_reducible refine below_drew ?_ | with_reducible refine below_drewN ?_ _ | with_reducible refine below_then ?_ hb6)); done)); (focus ((repeat (first | with_reducible assumption | with_reducible apply At.drw | with_reducible refine At.al ?_ _ | with_reducible refine At.bel ?_ hb6)); done)); (focus (first | (with_reducible refine At.c0' (t := 24) (x := .int .i64 xd) (y := .int .i64 xk) (z := .string xn) ?_; (repeat (first | with_reducible assumption | with_reducible apply At.drw | with_reducible refine At.al ?_ _ | with_reducible refine At.bel ?_ hb6)); done) | (with_reducible refine At.c1' (t := 24) (x := .int .i64 xd) (y := .int .i64 xk) (z := .string xn) ?_; (repeat (first | with_reducible assumption | with_reducible apply At.drw | with_reducible refine At.al ?_ _ | with_reducible refine At.bel ?_ hb6)); done) | (with_reducible refine At.c2' (t := 24) (x := .int .i64 xd) (y := .int .i64 xk) (z := .string xn) ?_; (repeat (first | with_reducible assumption | with_reducible apply At.drw | with_reducible refine At.al ?_ _ | with_reducible refine At.bel ?_ hb6)); done) )); (focus (first | (with_reducible refine At.c0' (t := 24) (x := .int .i64 xd) (y := .int .i64 xk) (z := .string xn) ?_; (repeat (first | with_reducible assumption | with_reducible apply At.drw | with_reducible refine At.al ?_ _ | with_reducible refine At.bel ?_ hb6)); done) | (with_reducible refine At.c1' (t := 24) (x := .int .i64 xd) (y := .int .i64 xk) (z := .string xn) ?_; (repeat (first | with_reducible assumption | with_reducible apply At.drw | with_reducible refine At.al ?_ _ | with_reducible refine At.bel ?_ hb6)); done) | (with_reducible refine At.c2' (t := 24) (x := .int .i64 xd) (y := .int .i64 xk) (z := .string xn) ?_; (repeat (first | with_reducible assumption | with_reducible apply At.drw | with_reducible refine At.al ?_ _ | with_reducible refine At.bel ?_ hb6)); done) )); (focus (first | (with_reducible refine At.c0' (t := 24) (x := .int .i64 xd) (y := .int .i64 xk) (z := .string xn) ?_; (repeat (first | with_reducible assumption | with_reducible apply At.drw | with_reducible refine At.al ?_ _ | with_reducible refine At.bel ?_ hb6)); done) | (with_reducible refine At.c1' (t := 24) (x := .int .i64 xd) (y := .int .i64 xk) (z := .string xn) ?_; (repeat (first | with_reducible assumption | with_reducible apply At.drw | with_reducible refine At.al ?_ _ | with_reducible refine At.bel ?_ hb6)); done) | (with_reducible refine At.c2' (t := 24) (x := .int .i64 xd) (y := .int .i64 xk) (z := .string xn) ?_; (repeat (first | with_reducible assumption | with_reducible apply At.drw | with_reducible refine At.al ?_ _ | with_reducible refine At.bel ?_ hb6)); done) ))) | go_keep)
                    clear hK K
                    (try simp only [Act.put, List.setIfInBounds_toArray, List.set_cons_zero, List.set_cons_succ])
                    refine wpAnyH_ready (rs := [5]) (by kernel_rfl) (by simp) ?_
                    refine AllReadyH.cons (i := 5) (by simp only [List.getElem?_toArray, List.getElem?_cons_succ, List.getElem?_cons_zero]; rfl) (fun K hK => ?_) ?_
                    · (refine step_append_w _ rfl (.tmp 64) (.tmp 66) 34 rfl W3.heap.size 24 i0 (.agg #[.int .i64 0, .int .i64 0, .string ⟨#[]⟩]) 3 32 Tryd.underlying34 hi hz0 hz1 hz2 rfl (by decide) (.slice a5 (0 + l.length) c5) (0 + l.length) ([] ++ l.flatMap encE) (by first | rfl | (simp [Act.eval]; done)) (ho5.alloc _) ⟨w5.heap.size, 0, none⟩ 1 1 [.int .i64 xd, .int .i64 xk, .string xn] (by first | rfl | (simp [Act.eval]; done)) rfl (three_new (At.new _ _ _)) (by intro u hu; simp at hu; rcases hu with rfl | rfl | rfl <;> rfl) (by have := hll.out; unfold maxLen; omega) (by have := hll.out; omega) (Below.size (B := W3.heap.size) (w := W3) (by go_split_ands; repeat (first | with_reducible assumption | with_reducible exact Below.refl _ _ | with_reducible refine below_al ?_ _ | with_reducible refine below_drew ?_ | with_reducible refine below_drewN ?_ _ | with_reducible refine below_then ?_ hb6))) ?_; intro a7 c7 w7 ho7 hg7 hloc7; have hB7 : Below W3.heap.size W3 w7 := below_grown (by go_split_ands; repeat (first | with_reducible assumption | with_reducible exact Below.refl _ _ | with_reducible refine below_al ?_ _ | with_reducible refine below_drew ?_ | with_reducible refine below_drewN ?_ _ | with_reducible refine below_then ?_ hb6)) hg7 (fun j hj => (own_lt ho5 hj).2); have kx7 : At w7 wr2.heap.size 24 #[.int .i64 xd, .int .i64 xk, .string xn] := At.bel kx hB7)
                      refine hK.out _ _ ?_ (fun hHeld => ?_)
                      · (try dsimp only); (first | ((try go_split_ands); refine ⟨?_, ?_, ?_, ?_, ?_⟩; (focus ((repeat (first | with_reducible assumption | with_reducible exact Below.refl _ _ | with_reducible refine below_al ?_ _ | with_reducible refine below_drew ?_ | with_reducible refine below_drewN ?_ _ | with_reducible refine below_then ?_ hb6)); done)); (focus ((repeat (first | with_reducible assumption | with_reducible apply At.drw | with_reducible refine At.al ?_ _ | with_reducible refine At.bel ?_ hb6)); done)); (focus (first | (with_reducible refine At.c0' (t := 24) (x := .int .i64 xd) (y := .int .i64 xk) (z := .string xn) ?_; (repeat (first | with_reducible assumption | with_reducible apply At.drw | with_reducible refine At.al ?_ _ | with_reducible refine At.bel ?_ hb6)); done) | (with_reducible refine At.c1' (t := 24) (x := .int .i64 xd) (y := .int .i64 xk) (z := .string xn) ?_; (repeat (first | with_reducible assumption | with_reducible apply At.drw | with_reducible refine At.al ?_ _ | with_reducible refine At.bel ?_ hb6)); done) | (with_reducible refine At.c2' (t := 24) (x := .int .i64 xd) (y := .int .i64 xk) (z := .string xn) ?_; (repeat (first | with_reducible assumption | with_reducible apply At.drw | with_reducible refine At.al ?_ _ | with_reducible refine At.bel ?_ hb6)); done) )); (focus (first | (with_reducible refine At.c0' (t := 24) (x := .int .i64 xd) (y := .int .i64 xk) (z := .string xn) ?_; (repeat (first | with_reducible assumption | with_reducible apply At.drw | with_reducible refine At.al ?_ _ | with_reducible refine At.bel ?_ hb6)); done) | (with_reducible refine At.c1' (t := 24) (x := .int .i64 xd) (y := .int .i64 xk) (z := .string xn) ?_; (repeat (first | with_reducible assumption | with_reducible apply At.drw | with_reducible refine At.al ?_ _ | with_reducible refine At.bel ?_ hb6)); done) | (with_reducible refine At.c2' (t := 24) (x := .int .i64 xd) (y := .int .i64 xk) (z := .string xn) ?_; (repeat (first | with_reducible assumption | with_reducible apply At.drw | with_reducible refine At.al ?_ _ | with_reducible refine At.bel ?_ hb6)); done) )); (focus (first | (with_reducible refine At.c0' (t := 24) (x := .int .i64 xd) (y := .int .i64 xk) (z := .string xn) ?_; (repeat (first | with_reducible assumption | with_reducible apply At.drw | with_reducible refine At.al ?_ _ | with_reducible refine At.bel ?_ hb6)); done) | (with_reducible refine At.c1' (t := 24) (x := .int .i64 xd) (y := .int .i64 xk) (z := .string xn) ?_; (repeat (first | with_reducible assumption | with_reducible apply At.drw | with_reducible refine At.al ?_ _ | with_reducible refine At.bel ?_ hb6)); done) | (with_reducible refine At.c2' (t := 24) (x := .int .i64 xd) (y := .int .i64 xk) (z := .string xn) ?_; (repeat (first | with_reducible assumption | with_reducible apply At.drw | with_reducible refine At.al ?_ _ | with_reducible refine At.bel ?_ hb6)); done) ))) | go_keep)
                      clear hK K
                      (try simp only [Act.put, List.setIfInBounds_toArray, List.set_cons_zero, List.set_cons_succ])
                      refine wpAnyH_take (i := 6) (v := ?_) (by simp only [List.getElem?_toArray, List.getElem?_cons_succ, List.getElem?_cons_zero]; rfl) (by kernel_rfl) (by kernel_rfl) (by kernel_rfl) (fun _ _ _ h => h) (Or.inl ⟨by rfl, ?_⟩) (by assumption) ?_
                      rotate_left
                      focus (intro w hSw; (try dsimp only at hSw); go_simp; first | done | with_reducible rfl)
                      (try simp only [Act.put, List.setIfInBounds_toArray, List.set_cons_zero, List.set_cons_succ])
                      refine wpAnyH_done (by kernel_rfl) ?_ _
                      refine NoPanic.normal ?_
                      go_wp2_with fail
                      go_meet
                      exact ⟨a7, c7, by first | rfl | simp, Lib.hid (row_push (by simpa using ho7)), hB7⟩
                    exact AllReadyH.nil
                  exact AllReadyH.nil
                refine AllReadyH.cons (i := 4) (by simp only [List.getElem?_toArray, List.getElem?_cons_succ, List.getElem?_cons_zero]; rfl) (fun K hK => ?_) ?_
                · go_simp
                  refine hK.out _ _ ?_ (fun hHeld => ?_)
                  · (try dsimp only); (first | ((try go_split_ands); refine ⟨?_, ?_, ?_, ?_, ?_⟩; (focus ((repeat (first | with_reducible assumption | with_reducible exact Below.refl _ _ | with_reducible refine below_al ?_ _ | with_reducible refine below_drew ?_ | with_reducible refine below_drewN ?_ _ | with_reducible refine below_then ?_ hb6)); done)); (focus ((repeat (first | with_reducible assumption | with_reducible apply At.drw | with_reducible refine At.al ?_ _ | with_reducible refine At.bel ?_ hb6)); done)); (focus (first | (with_reducible refine At.c0' (t := 24) (x := .int .i64 xd) (y := .int .i64 xk) (z := .string xn) ?_; (repeat (first | with_reducible assumption | with_reducible apply At.drw | with_reducible refine At.al ?_ _ | with_reducible refine At.bel ?_ hb6)); done) | (with_reducible refine At.c1' (t := 24) (x := .int .i64 xd) (y := .int .i64 xk) (z := .string xn) ?_; (repeat (first | with_reducible assumption | with_reducible apply At.drw | with_reducible refine At.al ?_ _ | with_reducible refine At.bel ?_ hb6)); done) | (with_reducible refine At.c2' (t := 24) (x := .int .i64 xd) (y := .int .i64 xk) (z := .string xn) ?_; (repeat (first | with_reducible assumption | with_reducible apply At.drw | with_reducible refine At.al ?_ _ | with_reducible refine At.bel ?_ hb6)); done) )); (focus (first | (with_reducible refine At.c0' (t := 24) (x := .int .i64 xd) (y := .int .i64 xk) (z := .string xn) ?_; (repeat (first | with_reducible assumption | with_reducible apply At.drw | with_reducible refine At.al ?_ _ | with_reducible refine At.bel ?_ hb6)); done) | (with_reducible refine At.c1' (t := 24) (x := .int .i64 xd) (y := .int .i64 xk) (z := .string xn) ?_; (repeat (first | with_reducible assumption | with_reducible apply At.drw | with_reducible refine At.al ?_ _ | with_reducible refine At.bel ?_ hb6)); done) | (with_reducible refine At.c2' (t := 24) (x := .int .i64 xd) (y := .int .i64 xk) (z := .string xn) ?_; (repeat (first | with_reducible assumption | with_reducible apply At.drw | with_reducible refine At.al ?_ _ | with_reducible refine At.bel ?_ hb6)); done) )); (focus (first | (with_reducible refine At.c0' (t := 24) (x := .int .i64 xd) (y := .int .i64 xk) (z := .string xn) ?_; (repeat (first | with_reducible assumption | with_reducible apply At.drw | with_reducible refine At.al ?_ _ | with_reducible refine At.bel ?_ hb6)); done) | (with_reducible refine At.c1' (t := 24) (x := .int .i64 xd) (y := .int .i64 xk) (z := .string xn) ?_; (repeat (first | with_reducible assumption | with_reducible apply At.drw | with_reducible refine At.al ?_ _ | with_reducible refine At.bel ?_ hb6)); done) | (with_reducible refine At.c2' (t := 24) (x := .int .i64 xd) (y := .int .i64 xk) (z := .string xn) ?_; (repeat (first | with_reducible assumption | with_reducible apply At.drw | with_reducible refine At.al ?_ _ | with_reducible refine At.bel ?_ hb6)); done) ))) | go_keep)
                  clear hK K
                  (try simp only [Act.put, List.setIfInBounds_toArray, List.set_cons_zero, List.set_cons_succ])
                  refine wpAnyH_ready (rs := [2]) (by kernel_rfl) (by simp) ?_
                  refine AllReadyH.cons (i := 2) (by simp only [List.getElem?_toArray, List.getElem?_cons_succ, List.getElem?_cons_zero]; rfl) (fun K hK => ?_) ?_
                  · (refine step_append_any _ rfl (.tmp 62) (.tmp 63) 34 rfl W3.heap.size 24 i0 (.agg #[.int .i64 0, .int .i64 0, .string ⟨#[]⟩]) 3 32 Tryd.underlying34 hi hz0 hz1 hz2 rfl (by decide) (.slice (some ⟨W3.heap.size, 0, none⟩) 0 0) 0 [] (by first | rfl | (simp [Act.eval]; done)) (own_empty (by first | exact At.new _ _ _ | exact At.new' rfl | exact At.al (At.new' rfl) _ | exact At.drw (At.new' rfl) | exact At.new' (by simp)) (by first | exact Nat.le_refl _ | (simp; done) | (simp; omega))) yv l.length (l.flatMap encE) (by first | rfl | (simp [Act.eval]; done)) (row_srcE (World.ownsRow_up ho.out (by go_split_ands; repeat (first | with_reducible assumption | with_reducible exact Below.refl _ _ | with_reducible refine below_al ?_ _ | with_reducible refine below_drew ?_ | with_reducible refine below_drewN ?_ _ | with_reducible refine below_then ?_ hb6)))) (by have := hll.out; unfold maxLen; omega) (by have := hll.out; omega) (Below.size (B := W3.heap.size) (w := W3) (by go_split_ands; repeat (first | with_reducible assumption | with_reducible exact Below.refl _ _ | with_reducible refine below_al ?_ _ | with_reducible refine below_drew ?_ | with_reducible refine below_drewN ?_ _ | with_reducible refine below_then ?_ hb6))) ?_; intro a5 c5 w5 ho5 hg5; have hB9 : Below W3.heap.size W3 w5 := below_grown (by go_split_ands; repeat (first | with_reducible assumption | with_reducible exact Below.refl _ _ | with_reducible refine below_al ?_ _ | with_reducible refine below_drew ?_ | with_reducible refine below_drewN ?_ _ | with_reducible refine below_then ?_ hb6)) hg5 (fun j hj => by have hj : some (W3.heap.size) = some j := hj; injection hj with hj; first | omega | (simp at hj; omega)); have kx9 : At w5 wr2.heap.size 24 #[.int .i64 xd, .int .i64 xk, .string xn] := At.bel kx hB9; have kb : At w5 (W3.heap.size + 1) 24 #[.int .i64 xd, .int .i64 xk, .string xn] := at_grown (by first | exact At.new' (by simp) | exact At.new' rfl) hg5 (fun h => by have h : some W3.heap.size = some (W3.heap.size + 1) := h; injection h with h; omega))
                    refine hK.out _ _ ?_ (fun hHeld => ?_)
                    · (try dsimp only); (first | ((try go_split_ands); refine ⟨?_, ?_, ?_, ?_, ?_⟩; (focus ((repeat (first | with_reducible assumption | with_reducible exact Below.refl _ _ | with_reducible refine below_al ?_ _ | with_reducible refine below_drew ?_ | with_reducible refine below_drewN ?_ _ | with_reducible refine below_then ?_ hb6)); done)); (focus ((repeat (first | with_reducible assumption | with_reducible apply At.drw | with_reducible refine At.al ?_ _ | with_reducible refine At.bel ?_ hb6)); done)); (focus (first | (with_reducible refine At.c0' (t := 24) (x := .int .i64 xd) (y := .int .i64 xk) (z := .string xn) ?_; (repeat (first | with_reducible assumption | with_reducible apply At.drw | with_reducible refine At.al ?_ _ | with_reducible refine At.bel ?_ hb6)); done) | (with_reducible refine At.c1' (t := 24) (x := .int .i64 xd) (y := .int .i64 xk) (z := .string xn) ?_; (repeat (first | with_reducible assumption | with_reducible apply At.drw | with_reducible refine At.al ?_ _ | with_reducible refine At.bel ?_ hb6)); done) | (with_reducible refine At.c2' (t := 24) (x := .int .i64 xd) (y := .int .i64 xk) (z := .string xn) ?_; (repeat (first | with_reducible assumption | with_reducible apply At.drw | with_reducible refine At.al ?_ _ | with_reducible refine At.bel ?_ hb6)); done) )); (focus (first | (with_reducible refine At.c0' (t := 24) (x := .int .i64 xd) (y := .int .i64 xk) (z := .string xn) ?_; (repeat (first | with_reducible assumption | with_reducible apply At.drw | with_reducible refine At.al ?_ _ | with_reducible refine At.bel ?_ hb6)); done) | (with_reducible refine At.c1' (t := 24) (x := .int .i64 xd) (y := .int .i64 xk) (z := .string xn) ?_; (repeat (first | with_reducible assumption | with_reducible apply At.drw | with_reducible refine At.al ?_ _ | with_reducible refine At.bel ?_ hb6)); done) | (with_reducible refine At.c2' (t := 24) (x := .int .i64 xd) (y := .int .i64 xk) (z := .string xn) ?_; (repeat (first | with_reducible assumption | with_reducible apply At.drw | with_reducible refine At.al ?_ _ | with_reducible refine At.bel ?_ hb6)); done) )); (focus (first | (with_reducible refine At.c0' (t := 24) (x := .int .i64 xd) (y := .int .i64 xk) (z := .string xn) ?_; (repeat (first | with_reducible assumption | with_reducible apply At.drw | with_reducible refine At.al ?_ _ | with_reducible refine At.bel ?_ hb6)); done) | (with_reducible refine At.c1' (t := 24) (x := .int .i64 xd) (y := .int .i64 xk) (z := .string xn) ?_; (repeat (first | with_reducible assumption | with_reducible apply At.drw | with_reducible refine At.al ?_ _ | with_reducible refine At.bel ?_ hb6)); done) | (with_reducible refine At.c2' (t := 24) (x := .int .i64 xd) (y := .int .i64 xk) (z := .string xn) ?_; (repeat (first | with_reducible assumption | with_reducible apply At.drw | with_reducible refine At.al ?_ _ | with_reducible refine At.bel ?_ hb6)); done) ))) | go_keep)
                    clear hK K
                    (try simp only [Act.put, List.setIfInBounds_toArray, List.set_cons_zero, List.set_cons_succ])
                    refine wpAnyH_ready (rs := [5]) (by kernel_rfl) (by simp) ?_
                    refine AllReadyH.cons (i := 5) (by simp only [List.getElem?_toArray, List.getElem?_cons_succ, List.getElem?_cons_zero]; rfl) (fun K hK => ?_) ?_
                    · (refine step_append_w _ rfl (.tmp 64) (.tmp 66) 34 rfl W3.heap.size 24 i0 (.agg #[.int .i64 0, .int .i64 0, .string ⟨#[]⟩]) 3 32 Tryd.underlying34 hi hz0 hz1 hz2 rfl (by decide) (.slice a5 (0 + l.length) c5) (0 + l.length) ([] ++ l.flatMap encE) (by first | rfl | (simp [Act.eval]; done)) ho5 ⟨W3.heap.size + 1, 0, none⟩ 1 1 [.int .i64 xd, .int .i64 xk, .string xn] (by first | rfl | (simp [Act.eval]; done)) rfl (three_new kb) (by intro u hu; simp at hu; rcases hu with rfl | rfl | rfl <;> rfl) (by have := hll.out; unfold maxLen; omega) (by have := hll.out; omega) (Below.size (B := W3.heap.size) (w := W3) (by go_split_ands; repeat (first | with_reducible assumption | with_reducible exact Below.refl _ _ | with_reducible refine below_al ?_ _ | with_reducible refine below_drew ?_ | with_reducible refine below_drewN ?_ _ | with_reducible refine below_then ?_ hb6))) ?_; intro a7 c7 w7 ho7 hg7 hloc7; have hB7 : Below W3.heap.size W3 w7 := below_grown (by go_split_ands; repeat (first | with_reducible assumption | with_reducible exact Below.refl _ _ | with_reducible refine below_al ?_ _ | with_reducible refine below_drew ?_ | with_reducible refine below_drewN ?_ _ | with_reducible refine below_then ?_ hb6)) hg7 (fun j hj => (own_lt ho5 hj).2); have kx7 : At w7 wr2.heap.size 24 #[.int .i64 xd, .int .i64 xk, .string xn] := At.bel kx hB7)
                      refine hK.out _ _ ?_ (fun hHeld => ?_)
                      · (try dsimp only); (first | ((try go_split_ands); refine ⟨?_, ?_, ?_, ?_, ?_⟩; (focus ((repeat (first | with_reducible assumption | with_reducible exact Below.refl _ _ | with_reducible refine below_al ?_ _ | with_reducible refine below_drew ?_ | with_reducible refine below_drewN ?_ _ | with_reducible refine below_then ?_ hb6)); done)); (focus ((repeat (first | with_reducible assumption | with_reducible apply At.drw | with_reducible refine At.al ?_ _ | with_reducible refine At.bel ?_ hb6)); done)); (focus (first | (with_reducible refine At.c0' (t := 24) (x := .int .i64 xd) (y := .int .i64 xk) (z := .string xn) ?_; (repeat (first | with_reducible assumption | with_reducible apply At.drw | with_reducible refine At.al ?_ _ | with_reducible refine At.bel ?_ hb6)); done) | (with_reducible refine At.c1' (t := 24) (x := .int .i64 xd) (y := .int .i64 xk) (z := .string xn) ?_; (repeat (first | with_reducible assumption | with_reducible apply At.drw | with_reducible refine At.al ?_ _ | with_reducible refine At.bel ?_ hb6)); done) | (with_reducible refine At.c2' (t := 24) (x := .int .i64 xd) (y := .int .i64 xk) (z := .string xn) ?_; (repeat (first | with_reducible assumption | with_reducible apply At.drw | with_reducible refine At.al ?_ _ | with_reducible refine At.bel ?_ hb6)); done) )); (focus (first | (with_reducible refine At.c0' (t := 24) (x := .int .i64 xd) (y := .int .i64 xk) (z := .string xn) ?_; (repeat (first | with_reducible assumption | with_reducible apply At.drw | with_reducible refine At.al ?_ _ | with_reducible refine At.bel ?_ hb6)); done) | (with_reducible refine At.c1' (t := 24) (x := .int .i64 xd) (y := .int .i64 xk) (z := .string xn) ?_; (repeat (first | with_reducible assumption | with_reducible apply At.drw | with_reducible refine At.al ?_ _ | with_reducible refine At.bel ?_ hb6)); done) | (with_reducible refine At.c2' (t := 24) (x := .int .i64 xd) (y := .int .i64 xk) (z := .string xn) ?_; (repeat (first | with_reducible assumption | with_reducible apply At.drw | with_reducible refine At.al ?_ _ | with_reducible refine At.bel ?_ hb6)); done) )); (focus (first | (with_reducible refine At.c0' (t := 24) (x := .int .i64 xd) (y := .int .i64 xk) (z := .string xn) ?_; (repeat (first | with_reducible assumption | with_reducible apply At.drw | with_reducible refine At.al ?_ _ | with_reducible refine At.bel ?_ hb6)); done) | (with_reducible refine At.c1' (t := 24) (x := .int .i64 xd) (y := .int .i64 xk) (z := .string xn) ?_; (repeat (first | with_reducible assumption | with_reducible apply At.drw | with_reducible refine At.al ?_ _ | with_reducible refine At.bel ?_ hb6)); done) | (with_reducible refine At.c2' (t := 24) (x := .int .i64 xd) (y := .int .i64 xk) (z := .string xn) ?_; (repeat (first | with_reducible assumption | with_reducible apply At.drw | with_reducible refine At.al ?_ _ | with_reducible refine At.bel ?_ hb6)); done) ))) | go_keep)
                      clear hK K
                      (try simp only [Act.put, List.setIfInBounds_toArray, List.set_cons_zero, List.set_cons_succ])
                      refine wpAnyH_take (i := 6) (v := ?_) (by simp only [List.getElem?_toArray, List.getElem?_cons_succ, List.getElem?_cons_zero]; rfl) (by kernel_rfl) (by kernel_rfl) (by kernel_rfl) (fun _ _ _ h => h) (Or.inl ⟨by rfl, ?_⟩) (by assumption) ?_
                      rotate_left
                      focus (intro w hSw; (try dsimp only at hSw); go_simp; first | done | with_reducible rfl)
                      (try simp only [Act.put, List.setIfInBounds_toArray, List.set_cons_zero, List.set_cons_succ])
                      refine wpAnyH_done (by kernel_rfl) ?_ _
                      refine NoPanic.normal ?_
                      go_wp2_with fail
                      go_meet
                      exact ⟨a7, c7, by first | rfl | simp, Lib.hid (row_push (by simpa using ho7)), hB7⟩
                    exact AllReadyH.nil
                  exact AllReadyH.nil
                exact AllReadyH.nil
              refine AllReadyH.cons (i := 4) (by simp only [List.getElem?_toArray, List.getElem?_cons_succ, List.getElem?_cons_zero]; rfl) (fun K hK => ?_) ?_
              · go_simp
                refine hK.out _ _ ?_ (fun hHeld => ?_)
                · (try dsimp only); (first | ((try go_split_ands); refine ⟨?_, ?_, ?_, ?_, ?_⟩; (focus ((repeat (first | with_reducible assumption | with_reducible exact Below.refl _ _ | with_reducible refine below_al ?_ _ | with_reducible refine below_drew ?_ | with_reducible refine below_drewN ?_ _ | with_reducible refine below_then ?_ hb6)); done)); (focus ((repeat (first | with_reducible assumption | with_reducible apply At.drw | with_reducible refine At.al ?_ _ | with_reducible refine At.bel ?_ hb6)); done)); (focus (first | (with_reducible refine At.c0' (t := 24) (x := .int .i64 xd) (y := .int .i64 xk) (z := .string xn) ?_; (repeat (first | with_reducible assumption | with_reducible apply At.drw | with_reducible refine At.al ?_ _ | with_reducible refine At.bel ?_ hb6)); done) | (with_reducible refine At.c1' (t := 24) (x := .int .i64 xd) (y := .int .i64 xk) (z := .string xn) ?_; (repeat (first | with_reducible assumption | with_reducible apply At.drw | with_reducible refine At.al ?_ _ | with_reducible refine At.bel ?_ hb6)); done) | (with_reducible refine At.c2' (t := 24) (x := .int .i64 xd) (y := .int .i64 xk) (z := .string xn) ?_; (repeat (first | with_reducible assumption | with_reducible apply At.drw | with_reducible refine At.al ?_ _ | with_reducible refine At.bel ?_ hb6)); done) )); (focus (first | (with_reducible refine At.c0' (t := 24) (x := .int .i64 xd) (y := .int .i64 xk) (z := .string xn) ?_; (repeat (first | with_reducible assumption | with_reducible apply At.drw | with_reducible refine At.al ?_ _ | with_reducible refine At.bel ?_ hb6)); done) | (with_reducible refine At.c1' (t := 24) (x := .int .i64 xd) (y := .int .i64 xk) (z := .string xn) ?_; (repeat (first | with_reducible assumption | with_reducible apply At.drw | with_reducible refine At.al ?_ _ | with_reducible refine At.bel ?_ hb6)); done) | (with_reducible refine At.c2' (t := 24) (x := .int .i64 xd) (y := .int .i64 xk) (z := .string xn) ?_; (repeat (first | with_reducible assumption | with_reducible apply At.drw | with_reducible refine At.al ?_ _ | with_reducible refine At.bel ?_ hb6)); done) )); (focus (first | (with_reducible refine At.c0' (t := 24) (x := .int .i64 xd) (y := .int .i64 xk) (z := .string xn) ?_; (repeat (first | with_reducible assumption | with_reducible apply At.drw | with_reducible refine At.al ?_ _ | with_reducible refine At.bel ?_ hb6)); done) | (with_reducible refine At.c1' (t := 24) (x := .int .i64 xd) (y := .int .i64 xk) (z := .string xn) ?_; (repeat (first | with_reducible assumption | with_reducible apply At.drw | with_reducible refine At.al ?_ _ | with_reducible refine At.bel ?_ hb6)); done) | (with_reducible refine At.c2' (t := 24) (x := .int .i64 xd) (y := .int .i64 xk) (z := .string xn) ?_; (repeat (first | with_reducible assumption | with_reducible apply At.drw | with_reducible refine At.al ?_ _ | with_reducible refine At.bel ?_ hb6)); done) ))) | go_keep)
                clear hK K
                (try simp only [Act.put, List.setIfInBounds_toArray, List.set_cons_zero, List.set_cons_succ])
                refine wpAnyH_ready (rs := [0]) (by kernel_rfl) (by simp) ?_
                refine AllReadyH.cons (i := 0) (by simp only [List.getElem?_toArray, List.getElem?_cons_zero]; rfl) (fun K hK => ?_) ?_
                · go_simp
                  refine hK.out _ _ ?_ (fun hHeld => ?_)
                  · (try dsimp only); (first | ((try go_split_ands); refine ⟨?_, ?_, ?_, ?_, ?_⟩; (focus ((repeat (first | with_reducible assumption | with_reducible exact Below.refl _ _ | with_reducible refine below_al ?_ _ | with_reducible refine below_drew ?_ | with_reducible refine below_drewN ?_ _ | with_reducible refine below_then ?_ hb6)); done)); (focus ((repeat (first | with_reducible assumption | with_reducible apply At.drw | with_reducible refine At.al ?_ _ | with_reducible refine At.bel ?_ hb6)); done)); (focus (first | (with_reducible refine At.c0' (t := 24) (x := .int .i64 xd) (y := .int .i64 xk) (z := .string xn) ?_; (repeat (first | with_reducible assumption | with_reducible apply At.drw | with_reducible refine At.al ?_ _ | with_reducible refine At.bel ?_ hb6)); done) | (with_reducible refine At.c1' (t := 24) (x := .int .i64 xd) (y := .int .i64 xk) (z := .string xn) ?_; (repeat (first | with_reducible assumption | with_reducible apply At.drw | with_reducible refine At.al ?_ _ | with_reducible refine At.bel ?_ hb6)); done) | (with_reducible refine At.c2' (t := 24) (x := .int .i64 xd) (y := .int .i64 xk) (z := .string xn) ?_; (repeat (first | with_reducible assumption | with_reducible apply At.drw | with_reducible refine At.al ?_ _ | with_reducible refine At.bel ?_ hb6)); done) )); (focus (first | (with_reducible refine At.c0' (t := 24) (x := .int .i64 xd) (y := .int .i64 xk) (z := .string xn) ?_; (repeat (first | with_reducible assumption | with_reducible apply At.drw | with_reducible refine At.al ?_ _ | with_reducible refine At.bel ?_ hb6)); done) | (with_reducible refine At.c1' (t := 24) (x := .int .i64 xd) (y := .int .i64 xk) (z := .string xn) ?_; (repeat (first | with_reducible assumption | with_reducible apply At.drw | with_reducible refine At.al ?_ _ | with_reducible refine At.bel ?_ hb6)); done) | (with_reducible refine At.c2' (t := 24) (x := .int .i64 xd) (y := .int .i64 xk) (z := .string xn) ?_; (repeat (first | with_reducible assumption | with_reducible apply At.drw | with_reducible refine At.al ?_ _ | with_reducible refine At.bel ?_ hb6)); done) )); (focus (first | (with_reducible refine At.c0' (t := 24) (x := .int .i64 xd) (y := .int .i64 xk) (z := .string xn) ?_; (repeat (first | with_reducible assumption | with_reducible apply At.drw | with_reducible refine At.al ?_ _ | with_reducible refine At.bel ?_ hb6)); done) | (with_reducible refine At.c1' (t := 24) (x := .int .i64 xd) (y := .int .i64 xk) (z := .string xn) ?_; (repeat (first | with_reducible assumption | with_reducible apply At.drw | with_reducible refine At.al ?_ _ | with_reducible refine At.bel ?_ hb6)); done) | (with_reducible refine At.c2' (t := 24) (x := .int .i64 xd) (y := .int .i64 xk) (z := .string xn) ?_; (repeat (first | with_reducible assumption | with_reducible apply At.drw | with_reducible refine At.al ?_ _ | with_reducible refine At.bel ?_ hb6)); done) ))) | go_keep)
                  clear hK K
                  (try simp only [Act.put, List.setIfInBounds_toArray, List.set_cons_zero, List.set_cons_succ])
                  refine wpAnyH_ready (rs := [2]) (by kernel_rfl) (by simp) ?_
                  refine AllReadyH.cons (i := 2) (by simp only [List.getElem?_toArray, List.getElem?_cons_succ, List.getElem?_cons_zero]; rfl) (fun K hK => ?_) ?_
                  · (refine step_append_any _ rfl (.tmp 62) (.tmp 63) 34 rfl W3.heap.size 24 i0 (.agg #[.int .i64 0, .int .i64 0, .string ⟨#[]⟩]) 3 32 Tryd.underlying34 hi hz0 hz1 hz2 rfl (by decide) (.slice (some ⟨W3.heap.size + 1, 0, none⟩) 0 0) 0 [] (by first | rfl | (simp [Act.eval]; done)) (own_empty (by first | exact At.new _ _ _ | exact At.new' rfl | exact At.al (At.new' rfl) _ | exact At.drw (At.new' rfl) | exact At.new' (by simp)) (by first | exact Nat.le_refl _ | (simp; done) | (simp; omega))) yv l.length (l.flatMap encE) (by first | rfl | (simp [Act.eval]; done)) (row_srcE (World.ownsRow_up ho.out (by go_split_ands; repeat (first | with_reducible assumption | with_reducible exact Below.refl _ _ | with_reducible refine below_al ?_ _ | with_reducible refine below_drew ?_ | with_reducible refine below_drewN ?_ _ | with_reducible refine below_then ?_ hb6)))) (by have := hll.out; unfold maxLen; omega) (by have := hll.out; omega) (Below.size (B := W3.heap.size) (w := W3) (by go_split_ands; repeat (first | with_reducible assumption | with_reducible exact Below.refl _ _ | with_reducible refine below_al ?_ _ | with_reducible refine below_drew ?_ | with_reducible refine below_drewN ?_ _ | with_reducible refine below_then ?_ hb6))) ?_; intro a5 c5 w5 ho5 hg5; have hB9 : Below W3.heap.size W3 w5 := below_grown (by go_split_ands; repeat (first | with_reducible assumption | with_reducible exact Below.refl _ _ | with_reducible refine below_al ?_ _ | with_reducible refine below_drew ?_ | with_reducible refine below_drewN ?_ _ | with_reducible refine below_then ?_ hb6)) hg5 (fun j hj => by have hj : some (W3.heap.size + 1) = some j := hj; injection hj with hj; first | omega | (simp at hj; omega)); have kx9 : At w5 wr2.heap.size 24 #[.int .i64 xd, .int .i64 xk, .string xn] := At.bel kx hB9; have kb : At w5 W3.heap.size 24 #[.int .i64 xd, .int .i64 xk, .string xn] := at_grown (by first | exact At.al (At.new' rfl) _ | exact At.al (At.drw (At.new' rfl)) _) hg5 (fun h => by have h : some (W3.heap.size + 1) = some W3.heap.size := h; injection h with h; omega))
                    refine hK.out _ _ ?_ (fun hHeld => ?_)
                    · (try dsimp only); (first | ((try go_split_ands); refine ⟨?_, ?_, ?_, ?_, ?_⟩; (focus ((repeat (first | with_reducible assumption | with_reducible exact Below.refl _ _ | with_reducible refine below_al ?_ _ | with_reducible refine below_drew ?_ | with_reducible refine below_drewN ?_ _ | with_reducible refine below_then ?_ hb6)); done)); (focus ((repeat (first | with_reducible assumption | with_reducible apply At.drw | with_reducible refine At.al ?_ _ | with_reducible refine At.bel ?_ hb6)); done)); (focus (first | (with_reducible refine At.c0' (t := 24) (x := .int .i64 xd) (y := .int .i64 xk) (z := .string xn) ?_; (repeat (first | with_reducible assumption | with_reducible apply At.drw | with_reducible refine At.al ?_ _ | with_reducible refine At.bel ?_ hb6)); done) | (with_reducible refine At.c1' (t := 24) (x := .int .i64 xd) (y := .int .i64 xk) (z := .string xn) ?_; (repeat (first | with_reducible assumption | with_reducible apply At.drw | with_reducible refine At.al ?_ _ | with_reducible refine At.bel ?_ hb6)); done) | (with_reducible refine At.c2' (t := 24) (x := .int .i64 xd) (y := .int .i64 xk) (z := .string xn) ?_; (repeat (first | with_reducible assumption | with_reducible apply At.drw | with_reducible refine At.al ?_ _ | with_reducible refine At.bel ?_ hb6)); done) )); (focus (first | (with_reducible refine At.c0' (t := 24) (x := .int .i64 xd) (y := .int .i64 xk) (z := .string xn) ?_; (repeat (first | with_reducible assumption | with_reducible apply At.drw | with_reducible refine At.al ?_ _ | with_reducible refine At.bel ?_ hb6)); done) | (with_reducible refine At.c1' (t := 24) (x := .int .i64 xd) (y := .int .i64 xk) (z := .string xn) ?_; (repeat (first | with_reducible assumption | with_reducible apply At.drw | with_reducible refine At.al ?_ _ | with_reducible refine At.bel ?_ hb6)); done) | (with_reducible refine At.c2' (t := 24) (x := .int .i64 xd) (y := .int .i64 xk) (z := .string xn) ?_; (repeat (first | with_reducible assumption | with_reducible apply At.drw | with_reducible refine At.al ?_ _ | with_reducible refine At.bel ?_ hb6)); done) )); (focus (first | (with_reducible refine At.c0' (t := 24) (x := .int .i64 xd) (y := .int .i64 xk) (z := .string xn) ?_; (repeat (first | with_reducible assumption | with_reducible apply At.drw | with_reducible refine At.al ?_ _ | with_reducible refine At.bel ?_ hb6)); done) | (with_reducible refine At.c1' (t := 24) (x := .int .i64 xd) (y := .int .i64 xk) (z := .string xn) ?_; (repeat (first | with_reducible assumption | with_reducible apply At.drw | with_reducible refine At.al ?_ _ | with_reducible refine At.bel ?_ hb6)); done) | (with_reducible refine At.c2' (t := 24) (x := .int .i64 xd) (y := .int .i64 xk) (z := .string xn) ?_; (repeat (first | with_reducible assumption | with_reducible apply At.drw | with_reducible refine At.al ?_ _ | with_reducible refine At.bel ?_ hb6)); done) ))) | go_keep)
                    clear hK K
                    (try simp only [Act.put, List.setIfInBounds_toArray, List.set_cons_zero, List.set_cons_succ])
                    refine wpAnyH_ready (rs := [5]) (by kernel_rfl) (by simp) ?_
                    refine AllReadyH.cons (i := 5) (by simp only [List.getElem?_toArray, List.getElem?_cons_succ, List.getElem?_cons_zero]; rfl) (fun K hK => ?_) ?_
                    · (refine step_append_w _ rfl (.tmp 64) (.tmp 66) 34 rfl W3.heap.size 24 i0 (.agg #[.int .i64 0, .int .i64 0, .string ⟨#[]⟩]) 3 32 Tryd.underlying34 hi hz0 hz1 hz2 rfl (by decide) (.slice a5 (0 + l.length) c5) (0 + l.length) ([] ++ l.flatMap encE) (by first | rfl | (simp [Act.eval]; done)) ho5 ⟨W3.heap.size, 0, none⟩ 1 1 [.int .i64 xd, .int .i64 xk, .string xn] (by first | rfl | (simp [Act.eval]; done)) rfl (three_new kb) (by intro u hu; simp at hu; rcases hu with rfl | rfl | rfl <;> rfl) (by have := hll.out; unfold maxLen; omega) (by have := hll.out; omega) (Below.size (B := W3.heap.size) (w := W3) (by go_split_ands; repeat (first | with_reducible assumption | with_reducible exact Below.refl _ _ | with_reducible refine below_al ?_ _ | with_reducible refine below_drew ?_ | with_reducible refine below_drewN ?_ _ | with_reducible refine below_then ?_ hb6))) ?_; intro a7 c7 w7 ho7 hg7 hloc7; have hB7 : Below W3.heap.size W3 w7 := below_grown (by go_split_ands; repeat (first | with_reducible assumption | with_reducible exact Below.refl _ _ | with_reducible refine below_al ?_ _ | with_reducible refine below_drew ?_ | with_reducible refine below_drewN ?_ _ | with_reducible refine below_then ?_ hb6)) hg7 (fun j hj => (own_lt ho5 hj).2); have kx7 : At w7 wr2.heap.size 24 #[.int .i64 xd, .int .i64 xk, .string xn] := At.bel kx hB7)
                      refine hK.out _ _ ?_ (fun hHeld => ?_)
                      · (try dsimp only); (first | ((try go_split_ands); refine ⟨?_, ?_, ?_, ?_, ?_⟩; (focus ((repeat (first | with_reducible assumption | with_reducible exact Below.refl _ _ | with_reducible refine below_al ?_ _ | with_reducible refine below_drew ?_ | with_reducible refine below_drewN ?_ _ | with_reducible refine below_then ?_ hb6)); done)); (focus ((repeat (first | with_reducible assumption | with_reducible apply At.drw | with_reducible refine At.al ?_ _ | with_reducible refine At.bel ?_ hb6)); done)); (focus (first | (with_reducible refine At.c0' (t := 24) (x := .int .i64 xd) (y := .int .i64 xk) (z := .string xn) ?_; (repeat (first | with_reducible assumption | with_reducible apply At.drw | with_reducible refine At.al ?_ _ | with_reducible refine At.bel ?_ hb6)); done) | (with_reducible refine At.c1' (t := 24) (x := .int .i64 xd) (y := .int .i64 xk) (z := .string xn) ?_; (repeat (first | with_reducible assumption | with_reducible apply At.drw | with_reducible refine At.al ?_ _ | with_reducible refine At.bel ?_ hb6)); done) | (with_reducible refine At.c2' (t := 24) (x := .int .i64 xd) (y := .int .i64 xk) (z := .string xn) ?_; (repeat (first | with_reducible assumption | with_reducible apply At.drw | with_reducible refine At.al ?_ _ | with_reducible refine At.bel ?_ hb6)); done) )); (focus (first | (with_reducible refine At.c0' (t := 24) (x := .int .i64 xd) (y := .int .i64 xk) (z := .string xn) ?_; (repeat (first | with_reducible assumption | with_reducible apply At.drw | with_reducible refine At.al ?_ _ | with_reducible refine At.bel ?_ hb6)); done) | (with_reducible refine At.c1' (t := 24) (x := .int .i64 xd) (y := .int .i64 xk) (z := .string xn) ?_; (repeat (first | with_reducible assumption | with_reducible apply At.drw | with_reducible refine At.al ?_ _ | with_reducible refine At.bel ?_ hb6)); done) | (with_reducible refine At.c2' (t := 24) (x := .int .i64 xd) (y := .int .i64 xk) (z := .string xn) ?_; (repeat (first | with_reducible assumption | with_reducible apply At.drw | with_reducible refine At.al ?_ _ | with_reducible refine At.bel ?_ hb6)); done) )); (focus (first | (with_reducible refine At.c0' (t := 24) (x := .int .i64 xd) (y := .int .i64 xk) (z := .string xn) ?_; (repeat (first | with_reducible assumption | with_reducible apply At.drw | with_reducible refine At.al ?_ _ | with_reducible refine At.bel ?_ hb6)); done) | (with_reducible refine At.c1' (t := 24) (x := .int .i64 xd) (y := .int .i64 xk) (z := .string xn) ?_; (repeat (first | with_reducible assumption | with_reducible apply At.drw | with_reducible refine At.al ?_ _ | with_reducible refine At.bel ?_ hb6)); done) | (with_reducible refine At.c2' (t := 24) (x := .int .i64 xd) (y := .int .i64 xk) (z := .string xn) ?_; (repeat (first | with_reducible assumption | with_reducible apply At.drw | with_reducible refine At.al ?_ _ | with_reducible refine At.bel ?_ hb6)); done) ))) | go_keep)
                      clear hK K
                      (try simp only [Act.put, List.setIfInBounds_toArray, List.set_cons_zero, List.set_cons_succ])
                      refine wpAnyH_take (i := 6) (v := ?_) (by simp only [List.getElem?_toArray, List.getElem?_cons_succ, List.getElem?_cons_zero]; rfl) (by kernel_rfl) (by kernel_rfl) (by kernel_rfl) (fun _ _ _ h => h) (Or.inl ⟨by rfl, ?_⟩) (by assumption) ?_
                      rotate_left
                      focus (intro w hSw; (try dsimp only at hSw); go_simp; first | done | with_reducible rfl)
                      (try simp only [Act.put, List.setIfInBounds_toArray, List.set_cons_zero, List.set_cons_succ])
                      refine wpAnyH_done (by kernel_rfl) ?_ _
                      refine NoPanic.normal ?_
                      go_wp2_with fail
                      go_meet
                      exact ⟨a7, c7, by first | rfl | simp, Lib.hid (row_push (by simpa using ho7)), hB7⟩
                    exact AllReadyH.nil
                  exact AllReadyH.nil
                exact AllReadyH.nil
              exact AllReadyH.nil
            case rest =>
              obtain ⟨ao, co, rfl, hmo, hbc⟩ := hcut
              have HV := Lib.hid (jvalid43_own hmo.out hnml.out)
              obtain ⟨vb, hvb⟩ : ∃ vb, logV (l ++ [(⟨xd, xk, xn⟩ : Ent)]) = vb := ⟨_, rfl⟩
              rw [hvb] at HV hnx
              have HBc := below_then HB3 hbc
              replace ho := Lib.hid (World.ownsRow_up ho.out hbc)
              have hmo2 : Hid (wc.ownsRow w.heap.size 24 3 (.slice ao (l.length + 1) co) (l ++ [(⟨xd, xk, xn⟩ : Ent)]).length ((l ++ [(⟨xd, xk, xn⟩ : Ent)]).flatMap encE)) := Lib.hid (own_weak hmo.out HB3.size)
              clear hbc HB3 kx hmo h7
              cases vb
              · have hE := hstop.out 1 (by rw [hnx.out, if_neg (not_not_intro rfl), if_pos rfl])
                clear hvb
                go_wp2_with fail
                refine HV.out.mono ?_
                rintro e1 wq2 ⟨rfl, rfl⟩
                go_wp2_with fail
                exact bodyPost_ret (v := .tuple #[yv, .int .i64 (at_ : Int), .int .i64 1]) (by simp [results, Tryd.results27, go_sem]) rfl ⟨⟨yv, by rw [hE.out], by rw [hE.out]; exact ho⟩, HBc⟩
              · have hG2 : Hid (goodF fu b (at_ + (M + 1)) (l ++ [⟨xd, xk, xn⟩]) = G) := Lib.hid (by
                  have h := hnx.out
                  rw [if_neg (not_not_intro rfl), if_neg (by decide)] at h
                  rw [← goodF_go hbl'.out h]
                  exact hg.out.1)
                have hl2 : Hid ((l ++ [(⟨xd, xk, xn⟩ : Ent)]).length ≤ 1000) := Lib.hid (by
                  have hv2 := hvb
                  unfold logV at hv2
                  simp only [Bool.and_eq_true, decide_eq_true_eq] at hv2
                  exact hv2.1.1)
                have heM := he'.out
                have hen2 := hen'.out
                have w9 : IntKind.i64.wrap ((at_ : Int) + ((M : Int) + 1)) = ((at_ + (M + 1) : Nat) : Int) := by rw [IntWalk.i64_in _ (by omega)]; omega
                have hat2 : at_ + (M + 1) ≤ n := by omega
                clear hvb heM hen2
                go_wp2_with fail
                refine HV.out.mono ?_
                rintro e1 wq2 ⟨rfl, rfl⟩
                go_wp2_with fail
                go_roundg (n - (at_ + (M + 1)))
                case measure => have := hr.out; omega
                case rel => exact ⟨at_ + (M + 1), l ++ [⟨xd, xk, xn⟩], _, fu, rfl, hat2, by first | rfl | go_num, Lib.hid rfl, Lib.hid ⟨hG2.out, by have := hg.out.2.1; omega, hl2.out, hnml.out⟩, HBc, hmo2⟩

end Go.Proofs.YtdcfpopbnkafaaaDoor
