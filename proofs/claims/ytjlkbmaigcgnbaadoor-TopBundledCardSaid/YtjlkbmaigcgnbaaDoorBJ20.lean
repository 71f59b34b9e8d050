/- lorry.Check: right loads. -/
import Derived.Test.YtjlkbmaigcgnbaaDoorBJ18
import Derived.Test.YtjlkbmaigcgnbaaDoorBJ19
set_option linter.unusedVariables false
namespace Go.Proofs.YtjlkbmaigcgnbaaDoor
open Go.ChangeShapes Go.WideShapes Go.ChangeAt Go.RowKit Go.Maps Go.ChangeMaps Go.WideMaps
theorem flatL_at {L : List (List Nat)} {j i : Nat} (hj : j < L.length) (hi : i < L[j].length) : L.flatten = ((L.take j).flatten ++ L[j].take i) ++ (L[j][i] :: (L[j].drop (i + 1) ++ (L.drop (j + 1)).flatten)) := by
  have h1 : L.flatten = (L.take j).flatten ++ (L[j] ++ (L.drop (j + 1)).flatten) := by
    rw [← List.flatten_cons, ← List.flatten_append, ← List.drop_eq_getElem_cons hj, List.take_append_drop]
  have h2 : L[j] = L[j].take i ++ (L[j][i] :: L[j].drop (i + 1)) := by
    rw [← List.drop_eq_getElem_cons hi, List.take_append_drop]
  rw [h1]
  rw (occs := .pos [1]) [h2]
  simp only [List.append_assoc, List.cons_append]
theorem fresh_at {L : List (List Nat)} (hn : L.flatten.Nodup) {j i : Nat} (hj : j < L.length) (hi : i < L[j].length) : ¬ L[j][i] ∈ (L.take j).flatten ++ L[j].take i := by
  rw [flatL_at hj hi] at hn
  exact fun h => (List.nodup_append.1 hn).2.2 _ h _ (by simp) rfl
def castZ (l : List Nat) : List Int := l.map fun n : Nat => (n : Int)
theorem castZ_mem {l : List Nat} {n : Nat} : ((n : Int) ∈ castZ l) ↔ n ∈ l := by
  unfold castZ
  rw [List.mem_map]
  refine ⟨?_, fun h => ⟨n, h, rfl⟩⟩
  rintro ⟨a, ha, e⟩
  rw [← Int.ofNat.inj e]
  exact ha
theorem castZ_snoc (l : List Nat) (n : Nat) : castZ (l ++ [n]) = castZ l ++ [(n : Int)] := by
  unfold castZ
  rw [List.map_append]
  rfl
theorem part_sum (f : Nat → Int) : ∀ (ld : List Nat) (i : Nat), (∀ x ∈ ld, 0 ≤ f x) → 0 ≤ ((ld.take i).map f).sum ∧ ((ld.take i).map f).sum ≤ (ld.map f).sum
  | [], i, _ => by simp
  | x :: ld, 0, h => by
    have h1 := part_sum f ld 0 (fun y hy => h y (by simp [hy]))
    have h2 := h x (by simp)
    simp only [List.take_zero, List.map_nil, List.sum_nil, List.map_cons, List.sum_cons] at h1 ⊢
    omega
  | x :: ld, i + 1, h => by
    have h1 := part_sum f ld i (fun y hy => h y (by simp [hy]))
    have h2 := h x (by simp)
    rw [List.take_succ_cons, List.map_cons, List.map_cons, List.sum_cons, List.sum_cons]
    omega
theorem part_next (f : Nat → Int) (ld : List Nat) (i : Nat) (hi : i < ld.length) : ((ld.take (i + 1)).map f).sum = ((ld.take i).map f).sum + f ld[i] := by
  rw [List.take_succ_eq_append_getElem hi, List.map_append, List.sum_append]
  simp
structure LoadsV (w : World) (L : List (List Nat)) (ao : Option Addr) (co : Nat) : Prop where
  cap : L.length ≤ co ∧ co ≤ 9223372036854775807
  cell : ∀ (j : Nat) (hj : j < L.length), ∃ g aj cj, ao = some ⟨g, 0, none⟩ ∧ w.cell? ⟨g, j, none⟩ = some (.slice aj L[j].length cj) ∧ L[j].length ≤ cj ∧ cj ≤ 9223372036854775807 ∧ RowAt encZ 1 w.heap.size w aj (castZ L[j])
theorem LoadsV.up {w w' : World} {L : List (List Nat)} {ao : Option Addr} {co : Nat} (h : LoadsV w L ao co) (hb : Below w.heap.size w w') : LoadsV w' L ao co :=
  ⟨h.cap, fun j hj => by
    obtain ⟨g, aj, cj, e, h1, h2, h3, h4⟩ := h.cell j hj
    exact ⟨g, aj, cj, e, cell_up hb h1, h2, h3, (h4.bel (Nat.le_refl _) hb).mono hb.size⟩⟩
theorem natV_cast (l : List Nat) : natV l = intV (castZ l) := by
  unfold natV intV castZ
  rw [List.map_map]
  rfl
theorem GrX.loads {B : Nat} {w : World} {L : List (List Nat)} {ms : List Int} {vo vm : Value} {vs : List Value} (h : GrX B w L ms vo vm vs vs) : ∃ ao co, vo = .slice ao L.length co ∧ LoadsV w L ao co := by
  have hn := h.n
  by_cases h0 : 0 < vs.length
  · obtain ⟨g, cap, e, h1, h2, -, -, -, hc⟩ := own_some h.o h0
    refine ⟨_, cap, by rw [← hn]; exact e, ⟨by rw [← hn]; exact ⟨h1, h2⟩, fun j hj => ?_⟩⟩
    have hj2 : j < vs.length := by omega
    have he := h.each j hj2 hj
    rw [natV_cast] at he
    have hl : (castZ L[j]).length = L[j].length := by unfold castZ; rw [List.length_map]
    rw [← hl] at he
    obtain ⟨aj, cj, e2, q1, q2, q3⟩ := own_isI he
    rw [hl] at e2 q1
    exact ⟨g, aj, cj, rfl, by rw [hc j _ (List.getElem?_eq_getElem hj2), e2], q1, q2, q3⟩
  · have hL : L.length = 0 := by omega
    obtain ⟨a, c, e⟩ := own_slice h.o
    obtain ⟨_, ⟨h1, h2⟩ | ⟨g, cap, cur, h1, h2, h3, h4, h5, h6⟩⟩ := h.o
    · exact ⟨none, 0, by rw [h1, hL], ⟨by omega, fun j hj => absurd hj (by omega)⟩⟩
    · exact ⟨_, cap, by rw [← hn]; exact h1, ⟨by rw [← hn]; exact ⟨h4, by have : cap ≤ 2 ^ 63 - 1 := h5; omega⟩, fun j hj => absurd hj (by omega)⟩⟩
set_option maxRecDepth 100000 in
set_option maxHeartbeats 2000000 in
theorem lcheck_any (l : List Bun) (a : Option Addr) (c : Nat) (most : Int) (hl : l.length ≤ c) (hc : c ≤ 9223372036854775807) (hs : Hid (∀ x ∈ l, x.tag.size ≤ 60 ∧ x.mark.size ≤ 60)) (w : World) (hr : Hid (RowAt encB 4 w.heap.size w a l)) (hk : GivK l most) (L : List (List Nat)) (ao : Option Addr) (co : Nat) (hL : LoadsV w L ao co) (hp : Pk (massN l) most l.length L) :
    Calls Tryd.prog 12 #[.slice a l.length c, .int .i64 most, .slice ao L.length co] w fun e w' => e = .returned (.tuple #[.bool true, .int .i64 0]) ∧ Below w.heap.size w w' := by
  have hmm := @run_makeMap Tryd.prog
  have HV := Lib.hid (bvalid_any l a c hl hc hs w hr)
  rw [hk.val] at HV
  have HW := Lib.hid (fun w => within_any most w)
  have hpos := hk.pos
  have hw1 : (decide (1 ≤ most) && decide (most ≤ 1099511627776)) = true := by simp; omega
  rw [hw1] at HW
  have hmass := Lib.hid hk.mass
  have hfl : Hid (∀ i (hi : i < l.length), l[i].mass = massN l i) := Lib.hid fun i hi => by unfold massN; rw [List.getElem?_eq_getElem hi]
  obtain ⟨f, hf⟩ : ∃ f, massN l = f := ⟨_, rfl⟩
  rw [hf] at hp hmass hfl
  have hnd : Hid L.flatten.Nodup := Lib.hid (hp.perm.nodup_iff.2 List.nodup_range)
  have hflen : Hid (L.flatten.length = l.length) := Lib.hid (by rw [hp.perm.length_eq, List.length_range])
  have hlt : Hid (∀ j (hj : j < L.length) i (hi : i < L[j].length), L[j][i] < l.length) := Lib.hid fun j hj i hi => by
    have := hp.perm.mem_iff.1 (List.mem_flatten.2 ⟨L[j], List.getElem_mem hj, List.getElem_mem hi⟩)
    simpa using this
  have hsum := Lib.hid hp.sum
  have hne := Lib.hid hp.ne
  replace hf := Lib.hid hf
  replace hL := Lib.hid hL
  have hr0 := hr
  obtain ⟨n, hn⟩ : ∃ n, l.length = n := ⟨_, rfl⟩
  rw [hn] at HV hl ⊢
  replace hn := Lib.hid hn
  have hcapL := hL.out.cap
  obtain ⟨m, hm⟩ : ∃ m, L.length = m := ⟨_, rfl⟩
  rw [hm] at hcapL ⊢
  replace hm := Lib.hid hm
  have hnb : n ≤ 1000 := by
    have := hk.val
    unfold bunV at this
    simp only [Bool.and_eq_true, decide_eq_true_eq] at this
    rw [← hn.out]
    exact this.1.1
  clear hk hp hw1
  go_enter Tryd.func12, Tryd.ntmps12
  go_wp2_with fail
  refine HV.out.mono ?_
  rintro e w1 ⟨rfl, HB⟩
  clear HV
  go_wp2_with fail
  refine (HW.out _).mono ?_
  rintro e w2 ⟨rfl, rfl⟩
  clear HW
  go_upto_region 6 with fail
  generalize hWW : World.alloc w1 _ = W0
  have hb0 : Below w1.heap.size w1 W0 := by rw [← hWW]; exact below_al (Below.refl _ _) _
  have hM0 : Hid (SeenZ W0 w1.heap.size 0 (castZ [])) := Lib.hid (by rw [← hWW]; exact SeenZ.made w1)
  clear hWW
  replace HB := Lib.hid HB
  go_wp2_with fail
  go_loopg [25] m (fun g1 i wr => ∃ j : Nat, j ≤ m ∧ i = .int .i64 (j : Int) ∧ Hid (g1 = m - j) ∧ Below w1.heap.size w1 wr ∧ Hid (SeenZ wr w1.heap.size (L.take j).flatten.length (castZ (L.take j).flatten)))
  case atStart => exact ⟨0, Nat.zero_le _, rfl, Lib.hid rfl, hb0, hM0⟩
  case round =>
    clear hb0 hM0
    obtain ⟨j, hj, rfl, hgr, HBr, hM⟩ := hrel
    by_cases hlt1 : j < m
    · have hjl : Hid (j < L.length) := Lib.hid (by rw [hm.out]; exact hlt1)
      have HBw := below_then HB.out HBr
      obtain ⟨g, aj, cj, rfl, c0, q1, q2, q3⟩ := hL.out.cell j hjl.out
      replace c0 := cell_up HBw c0
      have hje := hne.out _ (List.getElem_mem hjl.out)
      have hjs := hsum.out _ (List.getElem_mem hjl.out)
      have hjL := Lib.hid (hlt.out j hjl.out)
      have hfr := Lib.hid (fun i (hi : i < (L[j]'hjl.out).length) => fresh_at hnd.out hjl.out hi)
      have hnx : Hid ((L.take (j + 1)).flatten = (L.take j).flatten ++ L[j]'hjl.out) := Lib.hid (by rw [List.take_succ_eq_append_getElem hjl.out, List.flatten_append]; simp)
      have hal : Hid ((L.take j).flatten.length + (L[j]'hjl.out).length ≤ n) := Lib.hid (by
        rw [← List.length_append, ← hnx.out, ← hn.out, ← hflen.out]
        rw (occs := .pos [2]) [← List.take_append_drop (j + 1) L]
        rw [List.flatten_append, List.length_append]
        omega)
      obtain ⟨ld, hld⟩ : ∃ ld, L[j]'hjl.out = ld := ⟨_, rfl⟩
      rw [hld] at c0 q1 q3 hje hjs hjL hfr hnx hal
      obtain ⟨A, hA⟩ : ∃ A, (L.take j).flatten = A := ⟨_, rfl⟩
      rw [hA] at hM hfr hnx hal
      have hps := Lib.hid (fun i => part_sum f ld i (fun x _ => (hmass.out x).1))
      have hpn := Lib.hid (fun i (hi : i < ld.length) => part_next f ld i hi)
      clear hld hA
      have hjl0 : 0 < ld.length := List.length_pos_iff.2 hje
      obtain ⟨k, hk⟩ : ∃ k, ld.length = k := ⟨_, rfl⟩
      rw [hk] at c0 q1 hjl0
      have hq3 := Lib.hid q3
      have hkb : k ≤ n := by have := hal.out; omega
      replace hk := Lib.hid hk
      replace hjs := Lib.hid hjs
      clear q3 hje
      go_wp2_with fail
      go_loopg [31, 11] k (fun g1 i s wq => ∃ (i0 : Nat) (s0 : Int), i0 ≤ k ∧ i = .int .i64 (i0 : Int) ∧ s = .int .i64 s0 ∧ Hid (g1 = k - i0 ∧ s0 = ((ld.take i0).map f).sum) ∧ Below w1.heap.size w1 wq ∧ Hid (SeenZ wq w1.heap.size (A ++ ld.take i0).length (castZ (A ++ ld.take i0))))
      case atStart => exact ⟨0, 0, Nat.zero_le _, rfl, rfl, Lib.hid ⟨rfl, by simp⟩, HBr, by rw [List.take_zero, List.append_nil]; exact hM⟩
      case round =>
        clear HBr hM HBw c0
        obtain ⟨i, s, hi, rfl, rfl, hri, HBr, hM⟩ := hrel
        have HBw := below_then HB.out HBr
        by_cases hlt2 : i < k
        · have hil : Hid (i < ld.length) := Lib.hid (by rw [hk.out]; exact hlt2)
          obtain ⟨b, off, rfl, c0, -⟩ := (show RowAt (fun x => [Value.int .i64 x]) 1 w.heap.size wr aj (castZ ld) from hq3.out.bel (Nat.le_refl _) HBw).one i (by unfold castZ; rw [List.length_map]; exact hil.out)
          have hcz : (castZ ld)[i]'(by unfold castZ; rw [List.length_map]; exact hil.out) = ((ld[i]'hil.out : Nat) : Int) := by unfold castZ; rw [List.getElem_map]
          rw [hcz] at c0
          have hxn := hjL.out i hil.out
          have hfx := hfr.out i hil.out
          have hsx := hpn.out i hil.out
          have hs0 := hps.out i
          have hs1 := hps.out (i + 1)
          have htk : Hid (A ++ ld.take (i + 1) = (A ++ ld.take i) ++ [ld[i]'hil.out]) := Lib.hid (by rw [List.take_succ_eq_append_getElem hil.out, List.append_assoc])
          have hxm := hfl.out (ld[i]'hil.out) hxn
          obtain ⟨a0, o0, ha, -, -, -, b3, -⟩ := (show RowAt encB 4 w.heap.size wr a l from hr0.out.bel (Nat.le_refl _) HBw).bun (ld[i]'hil.out) hxn
          rw [hxm] at b3
          obtain ⟨x, hx⟩ : ∃ x, ld[i]'hil.out = x := ⟨_, rfl⟩
          rw [hx] at c0 hxn hfx hsx htk b3
          clear hx hxm hcz
          subst ha
          have hmx := hmass.out x
          have hjb := hjs.out
          obtain ⟨s2, hs2⟩ : ∃ s2, s + f x = s2 := ⟨_, rfl⟩
          have hsr := hri.out.2
          have hs2' : Hid (s2 = ((ld.take (i + 1)).map f).sum) := Lib.hid (by rw [hsx, ← hsr, hs2])
          have z1 : IntKind.i64.wrap (s + f x) = s2 := by rw [hs2, IntWalk.i64_in _ (by omega)]
          rw [hn.out] at hxn
          have hnot : ¬ (x : Int) ∈ castZ (A ++ ld.take i) := fun h => hfx (castZ_mem.1 h)
          have hlook := hM.out.look (x : Int) (by omega)
          rw [decide_eq_false hnot] at hlook
          have hkey := keyZ_of (x : Int) (by omega)
          replace hnot := Lib.hid hnot
          have hcn : Hid ((A ++ ld.take i).length < maxLen) := Lib.hid (by
            have := hal.out
            rw [List.length_append, List.length_take]
            unfold maxLen
            omega)
          obtain ⟨acc, hacc⟩ : ∃ acc, A ++ ld.take i = acc := ⟨_, rfl⟩
          rw [hacc] at hM htk hnot hcn
          have hal2 : (castZ acc).length = acc.length := by unfold castZ; rw [List.length_map]
          obtain ⟨D, hown, hat1, hat2, hat3⟩ := hM.out
          have hD := Lib.hid hown.isMap
          have hT := Lib.hid (hown.tidy key_int)
          replace hat1 := Lib.hid hat1
          replace hat2 := Lib.hid hat2
          replace hat3 := Lib.hid hat3
          clear hfx hsx hs0 hs1 hs2 hsr hjb hmx hacc HBw
          go_wp2_with (first | (at_mapUpdate; refine wpList_mapUpdate_own _ rfl _ _ _ 74 rfl 3 4 key_int Tryd.underlying74 _ w1.heap.size acc.length _ rfl hown hcn.out _ _ _ rfl rfl hkey _ [] (plainElem_bool Tryd.underlying4 true) ?_) | go_in)
          intro w5 hown5 hg5
          have hM5 : Hid (SeenZ w5 w1.heap.size (A ++ ld.take (i + 1)).length (castZ (A ++ ld.take (i + 1)))) := Lib.hid (by
            rw [htk.out, castZ_snoc, List.length_append, List.length_singleton]
            exact seenZ_put hown5 hD.out hT.out hat1.out hat2.out hat3.out hnot.out)
          have HB5 := grown_below HBr hg5 (Nat.le_refl _)
          clear hown hown5 hg5 hM HBr hlook
          have d3 : w5.cell? ⟨a0, o0 + x * 4 + 3, none⟩ = some (.int .i64 (f x)) := by
            obtain ⟨b', o', e, -, -, -, h3, -⟩ := (show RowAt encB 4 w.heap.size w5 (some ⟨a0, o0, none⟩) l from hr0.out.bel (Nat.le_refl _) (below_then HB.out HB5)).bun x (by rw [hn.out]; exact hxn)
            injection e with e
            injection e with e1 e2
            subst e1 e2
            rw [h3, hfl.out x (by rw [hn.out]; exact hxn)]
          clear b3 c0
          go_wp2_with fail
          go_roundg (k - (i + 1))
          case measure => have := hri.out.1; omega
          case rel => exact ⟨i + 1, s2, by omega, by go_num, rfl, Lib.hid ⟨rfl, hs2'.out⟩, HB5, hM5⟩
        · have hik : i = k := by omega
          have hSs : Hid (s = (ld.map f).sum) := Lib.hid (by
            have h1 := hri.out.2
            rwa [List.take_of_length_le (by rw [hk.out]; omega)] at h1)
          have hjs' := hjs.out
          have hsS := hSs.out
          have hM2 : Hid (SeenZ wr w1.heap.size (L.take (j + 1)).flatten.length (castZ (L.take (j + 1)).flatten)) := Lib.hid (by
            rw [hnx.out]
            have h1 := hM.out
            rwa [List.take_of_length_le (by rw [hk.out]; omega)] at h1)
          have g6 : decide (most < s) = false := decide_eq_false (by omega)
          have g7 : ((k : Int) == 0) = false := by simp; omega
          clear hM hjs' hsS
          go_wp2_with fail
          go_roundg (m - (j + 1))
          case measure => have := hgr.out; omega
          case rel => exact ⟨j + 1, by omega, by go_num, Lib.hid rfl, HBr, hM2⟩
    · have hlen : ∀ ty, (Builtin.len_ #[74] ty #[.map (some w1.heap.size)]).run Tryd.prog wr = .ok (.int .i64 (n : Int)) wr := fun ty => by
        have h1 := hM.out
        rw [List.take_of_length_le (by have := hm.out; omega)] at h1
        have h2 := h1.len ty
        unfold castZ at h2
        rwa [List.length_map, hflen.out, hn.out] at h2
      have HE := Lib.hid (below_then HB.out HBr)
      clear hM
      go_wp2_with fail
      exact bodyPost_ret (v := .tuple #[.bool true, .int .i64 0]) (by simp [results, Tryd.results12, go_sem]) rfl ⟨rfl, HE.out⟩
end Go.Proofs.YtjlkbmaigcgnbaaDoor
