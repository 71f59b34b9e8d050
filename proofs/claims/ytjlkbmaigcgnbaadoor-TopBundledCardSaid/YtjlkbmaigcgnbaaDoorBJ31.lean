/- Plain: the bundles of a schedule are valid; their counts and masses. The reference's Small; bundle.Mass; quantity.Total. -/
import Derived.Test.YtjlkbmaigcgnbaaDoorBJ03
import Derived.Test.YtjlkbmaigcgnbaaDoorBJ04
import Derived.Lib.ItoaLen
import Derived.Test.YtjlkbmaigcgnbaaDoorBJ30
import Derived.Test.YtjlkbmaigcgnbaaDoorBJ05
import Derived.Test.YtjlkbmaigcgnbaaDoorBJ17
set_option linter.unusedVariables false
namespace Go.Proofs.YtjlkbmaigcgnbaaDoor
def valT (s : List UInt8) : Nat := (s.drop 1).foldl (fun n c => n * 10 + (c.toNat - 48)) 0
theorem tag_small : ∀ k, k < 1001 → nameB (by_ (tagN k)) = true ∧ valT (by_ (tagN k)) = k + 1 ∧ (tagN k).size ≤ 6 := by decide +kernel
theorem tag_inj {j k : Nat} (hj : j < 1001) (hk : k < 1001) (h : tagN j = tagN k) : j = k := by
  have h1 := (tag_small j hj).2.1
  have h2 := (tag_small k hk).2.1
  rw [h] at h1
  omega
theorem tagL_get : ∀ (k : Nat) (l : List (ByteArray × Int × Int)) (j : Nat) (hj : j < (tagL k l).length), ∃ h2 : j < l.length, (tagL k l)[j] = tagB (k + j) l[j]
  | k, x :: l, 0, hj => ⟨by simp, by simp [tagL]⟩
  | k, x :: l, j + 1, hj => by
    have hj' : j < (tagL (k + 1) l).length := by simpa [tagL] using hj
    obtain ⟨h2, e⟩ := tagL_get (k + 1) l j hj'
    refine ⟨by simpa using h2, ?_⟩
    simp only [tagL, List.getElem_cons_succ]
    rw [e, show k + 1 + j = k + (j + 1) by omega]
structure PartOk (most : Int) (bars : List Br) (x : ByteArray × Int × Int) : Prop where
  line : ∃ b ∈ bars, x.1 = b.mark ∧ x.2.2 = x.2.1 * massB b
  count : 1 ≤ x.2.1 ∧ x.2.1 ≤ 1000
  mass : 0 ≤ x.2.2 ∧ x.2.2 ≤ most
theorem splitN_mem (whole : Nat) (hw : 1 ≤ whole) : ∀ (f n : Nat), n ≤ f → ∀ q ∈ splitN whole f n, 1 ≤ q ∧ q ≤ whole ∧ q ≤ n
  | 0, n, h, q, hq => by simp [splitN] at hq
  | f + 1, n, h, q, hq => by
    unfold splitN at hq
    split at hq
    · cases hq
    · rcases List.mem_cons.1 hq with rfl | hq
      · omega
      · have := splitN_mem whole hw f _ (by omega) q hq
        omega
theorem splitN_sum (whole : Nat) (hw : 1 ≤ whole) : ∀ (f n : Nat), n ≤ f → (splitN whole f n).sum = n
  | 0, n, h => by simp [splitN]; omega
  | f + 1, n, h => by
    unfold splitN
    split
    · simp; omega
    · rw [List.sum_cons, splitN_sum whole hw f _ (by omega)]
      omega
structure SchOk (most : Int) (bars : List Br) : Prop where
  ok : ∀ b ∈ bars, barV b = true ∧ massB b ≤ most
  nodup : (bars.map (·.mark)).Nodup
  few : bars.length ≤ 60
  pos : 1 ≤ most ∧ most ≤ 1099511627776
  full : (rawL most bars).length ≤ 1000
theorem makeE_ok {most : Int} {bars : List Br} (h : (makeE most bars).2 = 0) : SchOk most bars ∧ (makeE most bars).1 = makeL most bars := by
  unfold makeE at h ⊢
  cases hv : schV bars
  · rw [if_pos hv] at h; cases h
  rw [if_neg (fun e => by first | (cases e; done) | (rw [hv] at e; cases e))] at h ⊢
  by_cases h1 : most < 1 ∨ 1099511627776 < most
  · rw [if_pos h1] at h; cases h
  rw [if_neg h1] at h ⊢
  cases ho : (bars.any fun b => decide (most < massB b))
  rotate_left
  · rw [if_pos ho] at h; cases h
  rw [if_neg (fun e => by first | (cases e; done) | (rw [ho] at e; cases e))] at h ⊢
  by_cases h2 : 1000 < (rawL most bars).length
  · rw [if_pos h2] at h; cases h
  rw [if_neg h2]
  unfold schV marksD at hv
  simp only [Bool.and_eq_true, decide_eq_true_eq] at hv
  refine ⟨⟨fun b hb => ⟨List.all_eq_true.1 hv.1.2 b hb, ?_⟩, hv.2, hv.1.1, by omega, by omega⟩, rfl⟩
  have := List.any_eq_false.1 ho b hb
  simpa using this
theorem raw_part {most : Int} {bars : List Br} (h : SchOk most bars) {x : ByteArray × Int × Int} (hx : x ∈ rawL most bars) : PartOk most bars x := by
  unfold rawL at hx
  obtain ⟨b, hb, hx⟩ := List.mem_flatMap.1 hx
  obtain ⟨h1, h2⟩ := h.ok b hb
  have hL := barV_legs h1
  unfold rawB partL at hx
  obtain ⟨q, hq, rfl⟩ := List.mem_map.1 hx
  have hw := wholeN_pos hL h2
  have hq2 := splitN_mem _ hw _ _ (Nat.le_refl _) q hq
  have hc : b.count ≤ 1000 := by
    unfold barV at h1
    simp only [Bool.and_eq_true, decide_eq_true_eq] at h1
    exact h1.1.1.2
  exact ⟨⟨b, hb, rfl, rfl⟩, by dsimp only; omega, wholeN_mass hL h2 hq2.2.1⟩
theorem part_mass (b : Br) : ∀ l : List Nat, ((partL b l).map (·.2.2)).sum = (l.sum : Int) * massB b
  | [] => by simp [partL]
  | q :: l => by
    have := part_mass b l
    unfold partL at this ⊢
    rw [List.map_cons, List.map_cons, List.sum_cons, this, List.sum_cons, Int.natCast_add, Int.add_mul]
theorem part_count (b : Br) : ∀ l : List Nat, ((partL b l).map (·.2.1)).sum = (l.sum : Int)
  | [] => by simp [partL]
  | q :: l => by
    have := part_count b l
    unfold partL at this ⊢
    rw [List.map_cons, List.map_cons, List.sum_cons, this, List.sum_cons, Int.natCast_add]
theorem tagL_mass : ∀ (k : Nat) (l : List (ByteArray × Int × Int)), (tagL k l).map (·.mass) = l.map (·.2.2)
  | _, [] => rfl
  | k, x :: l => by rw [tagL, List.map_cons, List.map_cons, tagL_mass (k + 1) l]; rfl
theorem raw_mass {most : Int} : ∀ {bars : List Br}, (∀ b ∈ bars, barV b = true ∧ massB b ≤ most) → ((rawL most bars).map (·.2.2)).sum = (bars.map fun b => b.count * massB b).sum
  | [], _ => rfl
  | b :: r, h => by
    obtain ⟨h1, h2⟩ := h b (by simp)
    have hL := barV_legs h1
    have hc : 1 ≤ b.count := by
      unfold barV at h1
      simp only [Bool.and_eq_true, decide_eq_true_eq] at h1
      exact h1.1.1.1.2
    have ih := raw_mass (bars := r) (fun c hc => h c (by simp [hc]))
    rw [show rawL most (b :: r) = rawB most b ++ rawL most r from List.flatMap_cons .., List.map_append, List.sum_append, ih, List.map_cons, List.sum_cons]
    congr 1
    unfold rawB
    rw [part_mass, splitN_sum _ (wholeN_pos hL h2) _ _ (Nat.le_refl _), Int.toNat_of_nonneg (by omega)]
theorem make_mass {most : Int} {bars : List Br} (h : SchOk most bars) : ((makeL most bars).map (·.mass)).sum = (bars.map fun b => b.count * massB b).sum := by
  unfold makeL
  rw [tagL_mass]
  exact raw_mass h.ok
def cntU (U : List Bun) (m : ByteArray) : Int := ((U.filter fun x => decide (x.mark = m)).map (·.count)).sum
theorem cntU_tag (m : ByteArray) : ∀ (k : Nat) (l : List (ByteArray × Int × Int)), cntU (tagL k l) m = ((l.filter fun x => decide (x.1 = m)).map (·.2.1)).sum
  | _, [] => rfl
  | k, x :: l => by
    have ih := cntU_tag m (k + 1) l
    unfold cntU at ih ⊢
    rw [tagL, List.filter_cons, List.filter_cons]
    by_cases e : x.1 = m
    · rw [if_pos (show decide ((tagB k x).mark = m) = true from decide_eq_true e), if_pos (decide_eq_true e), List.map_cons, List.map_cons, List.sum_cons, List.sum_cons, ih]
      rfl
    · rw [if_neg (by show ¬ decide ((tagB k x).mark = m) = true; rw [decide_eq_false (show ¬ (tagB k x).mark = m from e)]; decide), if_neg (by rw [decide_eq_false e]; decide), ih]
theorem raw_none {most : Int} {m : ByteArray} : ∀ {bars : List Br}, (∀ b ∈ bars, b.mark ≠ m) → (rawL most bars).filter (fun x => decide (x.1 = m)) = []
  | bars, h => by
    rw [List.filter_eq_nil_iff]
    intro x hx
    unfold rawL at hx
    obtain ⟨b, hb, hx⟩ := List.mem_flatMap.1 hx
    unfold rawB partL at hx
    obtain ⟨q, hq, rfl⟩ := List.mem_map.1 hx
    simpa using h b hb
theorem raw_count {most : Int} : ∀ {bars : List Br}, (∀ b ∈ bars, barV b = true ∧ massB b ≤ most) → (bars.map (·.mark)).Nodup → ∀ b ∈ bars, (((rawL most bars).filter fun x => decide (x.1 = b.mark)).map (·.2.1)).sum = b.count
  | [], _, _, b, hb => by cases hb
  | c :: r, h, hn, b, hb => by
    rw [List.map_cons, List.nodup_cons] at hn
    rw [show rawL most (c :: r) = rawB most c ++ rawL most r from List.flatMap_cons .., List.filter_append, List.map_append, List.sum_append]
    rcases List.mem_cons.1 hb with rfl | hb
    · obtain ⟨h1, h2⟩ := h b (by simp)
      have hL := barV_legs h1
      have hc : 1 ≤ b.count := by
        unfold barV at h1
        simp only [Bool.and_eq_true, decide_eq_true_eq] at h1
        exact h1.1.1.1.2
      have e1 : (rawB most b).filter (fun x => decide (x.1 = b.mark)) = rawB most b := by
        rw [List.filter_eq_self]
        intro x hx
        unfold rawB partL at hx
        obtain ⟨q, hq, rfl⟩ := List.mem_map.1 hx
        simp
      rw [e1, raw_none (fun d hd e => hn.1 (by rw [← e]; exact List.mem_map_of_mem hd))]
      unfold rawB
      rw [part_count, splitN_sum _ (wholeN_pos hL h2) _ _ (Nat.le_refl _), Int.toNat_of_nonneg (by omega)]
      simp
    · have e1 : (rawB most c).filter (fun x => decide (x.1 = b.mark)) = [] := by
        rw [List.filter_eq_nil_iff]
        intro x hx
        unfold rawB partL at hx
        obtain ⟨q, hq, rfl⟩ := List.mem_map.1 hx
        have : c.mark ≠ b.mark := fun e => hn.1 (by rw [e]; exact List.mem_map_of_mem hb)
        simpa using this
      rw [e1, raw_count (fun d hd => h d (by simp [hd])) hn.2 b hb]
      simp
theorem make_count {most : Int} {bars : List Br} (h : SchOk most bars) {b : Br} (hb : b ∈ bars) : cntU (makeL most bars) b.mark = b.count := by
  unfold makeL
  rw [cntU_tag]
  exact raw_count h.ok h.nodup b hb
theorem make_mem {most : Int} {bars : List Br} (h : SchOk most bars) {x : Bun} (hx : x ∈ makeL most bars) : ∃ k y, k < (rawL most bars).length ∧ x = tagB k y ∧ PartOk most bars y := by
  obtain ⟨j, hj, rfl⟩ := List.getElem_of_mem hx
  obtain ⟨h2, e⟩ := tagL_get 0 (rawL most bars) j hj
  exact ⟨j, _, h2, by rw [show (makeL most bars)[j] = (tagL 0 (rawL most bars))[j] from rfl, e, Nat.zero_add], raw_part h (List.getElem_mem h2)⟩
theorem make_val {most : Int} {bars : List Br} (h : SchOk most bars) : bunV (makeL most bars) = true := by
  have hl : (makeL most bars).length = (rawL most bars).length := tagL_len _ _
  unfold bunV
  simp only [Bool.and_eq_true, decide_eq_true_eq]
  refine ⟨⟨by rw [hl]; exact h.full, List.all_eq_true.2 fun x hx => ?_⟩, ?_⟩
  · obtain ⟨k, y, hk, rfl, hp⟩ := make_mem h hx
    obtain ⟨b, hb, e1, e2⟩ := hp.line
    have h1 := (h.ok b hb).1
    unfold barV at h1
    simp only [Bool.and_eq_true, decide_eq_true_eq] at h1
    have hc := hp.count
    have hm := hp.mass
    have hpos := h.pos
    unfold bunOk tagB
    simp only [Bool.and_eq_true, decide_eq_true_eq]
    exact ⟨⟨⟨⟨⟨(tag_small k (by have := h.full; omega)).1, by rw [e1]; exact h1.1.1.1.1.1.2⟩, hc.1⟩, hc.2⟩, hm.1⟩, by omega⟩
  · rw [List.nodup_iff_pairwise_ne, List.pairwise_iff_getElem]
    intro i j hi hj hij e
    rw [List.length_map, hl] at hi hj
    have hf := h.full
    have g : ∀ (k : Nat) (hk : k < (rawL most bars).length), ((makeL most bars).map (·.tag))[k]'(by rw [List.length_map, hl]; exact hk) = tagN k := fun k hk => by
      rw [List.getElem_map]
      obtain ⟨h2, e⟩ := tagL_get 0 (rawL most bars) k (by rw [tagL_len]; exact hk)
      rw [show (makeL most bars)[k]'(by rw [hl]; exact hk) = (tagL 0 (rawL most bars))[k]'(by rw [tagL_len]; exact hk) from rfl, e, Nat.zero_add]
      rfl
    rw [g i hi, g j hj] at e
    have := tag_inj (by omega) (by omega) e
    omega
end Go.Proofs.YtjlkbmaigcgnbaaDoor
set_option linter.unusedVariables false
namespace Go.Proofs.YtjlkbmaigcgnbaaDoor
open Go.ChangeShapes Go.WideShapes Go.ChangeAt Go.RowKit
def smlB (l : List Br) (most : Nat) : Bool := decide (l.length ≤ most) && l.all fun b => decide (b.mark.size ≤ 60) && decide (b.dims.length ≤ 12)
theorem mass_take (l : List Bun) (k : Nat) (hk : k < l.length) : ((l.take (k + 1)).map (·.mass)).sum = ((l.take k).map (·.mass)).sum + l[k].mass := by
  rw [List.take_succ_eq_append_getElem hk, List.map_append, List.sum_append]
  simp
theorem mass_bound : ∀ (l : List Bun) (k : Nat), (∀ x ∈ l, 0 ≤ x.mass ∧ x.mass ≤ 1099511627776) → 0 ≤ ((l.take k).map (·.mass)).sum ∧ ((l.take k).map (·.mass)).sum ≤ (l.length : Int) * 1099511627776
  | [], k, _ => by simp
  | a :: l, 0, _ => by simp; omega
  | a :: l, k + 1, h => by
    have h1 := mass_bound l k (fun n hn => h n (by simp [hn]))
    have h2 := h a (by simp)
    rw [List.take_succ_cons, List.map_cons, List.sum_cons, List.length_cons]
    omega
set_option maxRecDepth 100000 in
set_option maxHeartbeats 1000000 in
theorem bunMass_any (l : List Bun) (ao : Option Addr) (cap : Nat) (hl : l.length ≤ cap) (hc : cap ≤ 9223372036854775807) (hs : Hid (∀ x ∈ l, x.tag.size ≤ 60 ∧ x.mark.size ≤ 60)) (w : World) (ha : Hid (RowAt encB 4 w.heap.size w ao l)) (hv : bunV l = true) :
    Calls Tryd.prog 8 #[.slice ao l.length cap] w fun e w' => e = .returned (.tuple #[.int .i64 (l.map (·.mass)).sum, .int .i64 0]) ∧ Below w.heap.size w w' := by
  have HV := Lib.hid (bvalid_any l ao cap hl hc hs w ha)
  rw [hv] at HV
  have hm : ∀ x ∈ l, 0 ≤ x.mass ∧ x.mass ≤ 1099511627776 := fun x hx => by
    unfold bunV at hv
    simp only [Bool.and_eq_true, decide_eq_true_eq] at hv
    have := List.all_eq_true.1 hv.1.2 x hx
    unfold bunOk at this
    simp only [Bool.and_eq_true, decide_eq_true_eq] at this
    exact ⟨this.1.2, this.2⟩
  have hbd := Lib.hid (fun k => mass_bound l k hm)
  have hn1 : l.length ≤ 1000 := by
    unfold bunV at hv
    simp only [Bool.and_eq_true, decide_eq_true_eq] at hv
    exact hv.1.1
  replace hm := Lib.hid hm
  obtain ⟨T, hT⟩ : ∃ T, (l.map (·.mass)).sum = T := ⟨_, rfl⟩
  rw [hT]
  obtain ⟨n, hn⟩ : ∃ n, l.length = n := ⟨_, rfl⟩
  rw [hn] at HV hbd hl hn1 ⊢
  replace hn := Lib.hid hn
  replace hT := Lib.hid hT
  clear hv
  go_enter Tryd.func8, Tryd.ntmps8
  go_wp2_with fail
  refine HV.out.mono ?_
  rintro e w1 ⟨rfl, HB⟩
  clear HV
  go_wp2_with fail
  go_loopg [12, 4] n (fun g i u wr => ∃ (k : Nat) (s : Int), k ≤ n ∧ i = .int .i64 (k : Int) ∧ u = .int .i64 s ∧ Hid (g = n - k ∧ s = ((l.take k).map (·.mass)).sum) ∧ Below w.heap.size w wr)
  case atStart => exact ⟨0, 0, Nat.zero_le _, rfl, rfl, Lib.hid ⟨rfl, by simp⟩, HB⟩
  case round =>
    clear HB
    obtain ⟨k, s, hk, rfl, rfl, hr, HB⟩ := hrel
    by_cases hlt : k < n
    · have hkl : Hid (k < l.length) := Lib.hid (by rw [hn.out]; exact hlt)
      obtain ⟨b, off, rfl, c0, c1, c2, c3, -⟩ := (show RowAt encB 4 w.heap.size wr ao l from ha.out.bel (Nat.le_refl _) HB).bun k hkl.out
      have hx := hm.out _ (List.getElem_mem hkl.out)
      have hnx := Lib.hid (mass_take l k hkl.out)
      obtain ⟨x, hx2⟩ : ∃ x, l[k]'hkl.out = x := ⟨_, rfl⟩
      rw [hx2] at c0 c1 c2 c3 hx hnx
      clear hx2
      obtain ⟨xt, xm, xc, xs⟩ := x
      dsimp only at c0 c1 c2 c3 hx hnx
      have hb1 := hbd.out k
      have hs2 := hr.out.2
      obtain ⟨s2, hs3⟩ : ∃ s2, s + xs = s2 := ⟨_, rfl⟩
      have z1 : IntKind.i64.wrap (s + xs) = s2 := by rw [hs3, IntWalk.i64_in _ (by omega)]
      have hst : Hid (s2 = ((l.take (k + 1)).map (·.mass)).sum) := Lib.hid (by rw [hnx.out]; omega)
      clear hb1 hs2 hs3 hx
      go_upto_region 7 with fail
      generalize hWW : World.alloc _ _ = W4
      have ky : At W4 wr.heap.size 44 #[.string xt, .string xm, .int .i64 xc, .int .i64 xs] := by rw [← hWW]; exact At.new' rfl
      have hbW : Below wr.heap.size wr W4 := by rw [← hWW]; exact below_al (Below.refl _ _) _
      have q0 : W4.cell? ⟨wr.heap.size, 3, none⟩ = some (.int .i64 xs) := ky.c 3
      replace HB := below_then HB hbW
      clear hWW hbW c0 c1 c2 c3 ky
      go_wp2_with fail
      go_roundg (n - (k + 1))
      case measure => have := hr.out.1; omega
      case rel => exact ⟨k + 1, s2, by omega, by go_num, rfl, Lib.hid ⟨rfl, hst.out⟩, HB⟩
    · have hE : Hid (s = T) := Lib.hid (by
        have h1 := hr.out.2
        rw [List.take_of_length_le (by have := hn.out; omega), hT.out] at h1
        exact h1)
      go_wp2_with fail
      exact bodyPost_ret (v := .tuple #[.int .i64 s, .int .i64 0]) (by simp [results, Tryd.results8, go_sem]) rfl ⟨by rw [hE.out], HB⟩
set_option maxRecDepth 100000 in
set_option maxHeartbeats 1000000 in
theorem bendMass_any (b : Br) (v : Value) (w : World) (hm : b.mark.size ≤ 1000000) (hv : IsI b.dims v w) (hok : barV b = true) : Calls Tryd.prog 43 #[.agg (barC b v)] w fun e w' => e = .returned (.tuple #[.int .i64 (b.count * massB b), .int .i64 0]) ∧ Below w.heap.size w w' := by
  have HV := Lib.hid (fun W (hW : Below w.heap.size w W) => cut_any b v W hm (hv.up hW) hok)
  have hL := barV_legs hok
  have hb := cut_le hL
  have hmb := mass_le hL
  have HM := Lib.hid (fun w => mass_any b.size (cutL b) hL.size (by omega) w)
  have hct : 1 ≤ b.count ∧ b.count ≤ 1000 := by
    unfold barV at hok
    simp only [Bool.and_eq_true, decide_eq_true_eq] at hok
    exact ⟨hok.1.1.1.2, hok.1.1.2⟩
  unfold massB at hmb ⊢
  generalize cutL b = C at *
  unfold barC at *
  obtain ⟨mk, sz, ct, c, l⟩ := b
  dsimp only at *
  obtain ⟨a, cc, rfl, -, -, -⟩ := hv
  generalize l.length = n0 at *
  generalize massOf sz C = M at *
  obtain ⟨P, hP⟩ : ∃ P, ct * M = P := ⟨_, rfl⟩
  have hPb : 0 ≤ P ∧ P ≤ 10000000000 := by
    rw [← hP]
    refine ⟨Int.mul_nonneg (by omega) (by omega), ?_⟩
    have h1 : ct * M ≤ 1000 * M := Int.mul_le_mul_of_nonneg_right (by omega) (by omega)
    omega
  have z1 : IntKind.i64.wrap (ct * M) = P := by rw [hP, IntWalk.i64_in _ (by omega)]
  rw [hP]
  clear hok hL hb hmb hct hP hPb
  go_enter Tryd.func43, Tryd.ntmps43
  go_wp2_with fail
  generalize hWW : World.alloc w _ = WW
  have kx : At WW w.heap.size 50 #[.string mk, .int .i64 sz, .int .i64 ct, .int .i64 c, .slice a n0 cc] := by rw [← hWW]; exact At.new' rfl
  have HB : Below w.heap.size w WW := by rw [← hWW]; exact below_al (Below.refl _ _) _
  clear hWW
  refine (HV.out _ HB).mono ?_
  rintro e w1 ⟨rfl, hb⟩
  replace HB := below_then HB hb
  replace kx := kx.bel hb
  have x1 : w1.cell? ⟨w.heap.size, 1, none⟩ = some (.int .i64 sz) := kx.c 1
  clear hb HV
  go_wp2_with fail
  refine (HM.out _).mono ?_
  rintro e w4 ⟨rfl, hb⟩
  replace HB := below_then HB hb
  replace kx := kx.bel hb
  have x2 : w4.cell? ⟨w.heap.size, 2, none⟩ = some (.int .i64 ct) := kx.c 2
  clear hb HM x1 kx
  go_wp2_with fail
  exact bodyPost_ret (v := .tuple #[.int .i64 P, .int .i64 0]) (by simp [results, Tryd.results43, go_sem]) rfl ⟨rfl, HB⟩
end Go.Proofs.YtjlkbmaigcgnbaaDoor
