/- journal: the walk of JournalRecovers. -/
import Derived.Test.YtdcfpopbnkafaaaDoorJoN
set_option linter.unusedVariables false
namespace Go.Proofs.YtdcfpopbnkafaaaDoor
open Go.ChangeShapes Go.WideShapes Go.ChangeAt Go.RowKit

set_option maxRecDepth 100000 in
set_option maxHeartbeats 2000000 in
theorem journalRecovers_walk (b : List UInt8) (v : Value) (w : World) (hv : IsB b v w) (he : Env w) :
    Calls Tryd.prog 5 #[v] w fun e w' => e = .returned (.bool true) ∧ Below w.heap.size w w' := by
  obtain ⟨a, n, c, rfl, hn0, hnc, hcm⟩ := hv.shape
  have he0 := Lib.hid he
  have hv0 := Lib.hid hv
  replace hn0 := Lib.hid hn0
  have HA := Lib.hid (awake_v w he)
  clear he hv
  go_enter Tryd.func5, Tryd.ntmps5
  go_wp2_with fail
  refine HA.out.mono ?_
  rintro e w1 ⟨rfl, HB⟩
  clear HA
  obtain ⟨hh, hhh⟩ : ∃ hh, heavyB b.length = hh := ⟨_, rfl⟩
  have HH := Lib.hid (heavy_v b _ w1 (hv0.out.up HB))
  rw [hhh] at HH
  go_wp2_with fail
  refine HH.out.mono ?_
  rintro e wn ⟨rfl, rfl⟩
  clear HH
  rcases hh with _ | _
  rotate_left
  · clear hhh
    go_wp2_with fail
    go_ret
    exact ⟨rfl, HB⟩
  have hsz := heavy_no hhh
  clear hhh
  have HG := Lib.hid (goodN_v b _ (by omega) w1 (he0.out.bel HB) (hv0.out.up HB))
  by_cases hbig : 1048576 < b.length
  · have hbig' : (decide ((1048576 : Int) < (n : Int))) = true := by have := hn0.out; simp; omega
    have eG : gooN b = (0, 0, 4) := by unfold gooN; rw [if_pos hbig]
    have eN : recN b = 4 := by unfold recN; rw [if_pos hbig]
    have eL : recL b = [] := by unfold recL; rw [if_pos hbig]
    have eB : recB b = [] := by unfold recB; rw [if_pos hbig]
    rw [eG] at HG
    dsimp only at HG
    have z0 : ((0 : Nat) : Int) = 0 := rfl
    rw [z0] at HG
    have hbl := Lib.hid (show b.length ≤ 100000 ∨ 1048576 < b.length by omega)
    replace eN := Lib.hid eN
    replace eL := Lib.hid eL
    replace eB := Lib.hid eB
    clear hsz hbig eG
    go_wp2_with fail
    refine HG.out.mono ?_
    rintro e w2 ⟨rfl, hb2⟩
    replace HB := below_then HB hb2
    clear HG hb2
    have HR := Lib.hid (recover_v b _ hbl.out w2 (he0.out.bel HB) (hv0.out.up HB))
    go_wp2_with fail
    refine HR.out.mono ?_
    rintro e w3 ⟨⟨y, z, er, rfl, hr, hy, hz⟩, hb3⟩
    have her : er = 4 := hr.out.trans eN.out
    subst her
    rw [eB.out] at hy
    rw [eL.out] at hz
    obtain ⟨ya, yc, rfl⟩ := own_slice hy.out
    obtain ⟨za, zc, rfl⟩ := own_slice hz.out
    replace HB := below_then HB hb3
    clear HR hb3 hy hz hr
    simp only [List.length_nil]
    go_wp2_with fail
    go_ret
    exact ⟨rfl, HB⟩
  have hbig' : (decide ((1048576 : Int) < (n : Int))) = false := by have := hn0.out; simp; omega
  obtain ⟨l, t, e0, hg, hbt, htk, hdr, hst, hez, hvl⟩ := good_parts b
  obtain ⟨at_, hat⟩ : ∃ at_, (encJ l).length = at_ := ⟨_, rfl⟩
  have hatn : at_ ≤ n := by
    have := congrArg List.length hbt
    rw [List.length_append] at this
    have := hn0.out
    omega
  rw [hat] at hg
  have eG : gooN b = (l.length, at_, 0) := by unfold gooN; rw [if_neg hbig, hg]
  have eN : recN b = 0 := by unfold recN; rw [if_neg hbig]
  have eL : recL b = l := by unfold recL; rw [if_neg hbig, hg]
  have eB : recB b = b.take at_ := by unfold recB; rw [if_neg hbig, hg]
  have hl0 : Hid (l.length ≤ 1000) := Lib.hid (by
    unfold logV at hvl
    simp only [Bool.and_eq_true, decide_eq_true_eq] at hvl
    exact hvl.1.1)
  obtain ⟨L, hL⟩ : ∃ L, l.length = L := ⟨_, rfl⟩
  rw [eG, hL] at HG
  dsimp only at HG
  have hbl := Lib.hid (show b.length ≤ 100000 by omega)
  have hL0 : L ≤ 1000 := by rw [← hL]; exact hl0.out
  have hat9 : at_ ≤ 100000 := by have := hn0.out; have := hbl.out; omega
  replace eN := Lib.hid eN
  replace eL := Lib.hid eL
  replace eB := Lib.hid eB
  replace hg := Lib.hid hg
  replace hL := Lib.hid hL
  clear hsz hbig eG hbt htk hdr hst hez hvl hat
  go_wp2_with fail
  refine HG.out.mono ?_
  rintro e w2 ⟨rfl, hb2⟩
  replace HB := below_then HB hb2
  clear HG hb2
  have HR := Lib.hid (recover_v b _ (.inl hbl.out) w2 (he0.out.bel HB) (hv0.out.up HB))
  go_wp2_with fail
  refine HR.out.mono ?_
  rintro e w3 ⟨⟨y, z, er, rfl, hr, hy, hz⟩, hb3⟩
  have her : er = 0 := hr.out.trans eN.out
  subst her
  have hy2 : Hid (IsB (b.take at_) y w3) := Lib.hid (by have := row_isB hy.out; rwa [eB.out] at this)
  have hz2 : Hid (IsE l z w3) := Lib.hid (by have := row_isE hz.out; rwa [eL.out] at this)
  obtain ⟨ya, yc, rfl⟩ := own_slice hy.out
  obtain ⟨za, zc, rfl⟩ := own_slice hz.out
  replace HB := below_then HB hb3
  have HQ := Lib.hid (refgood_v b _ (by have := hbl.out; omega) w3 (hv0.out.up HB))
  rw [hg.out] at HQ
  dsimp only at HQ
  clear HR hb3 hy hz hr
  obtain ⟨yl, hyl⟩ : ∃ yl, (recB b).length = yl := ⟨_, rfl⟩
  obtain ⟨zl, hzl⟩ : ∃ zl, (recL b).length = zl := ⟨_, rfl⟩
  rw [hyl] at hy2 ⊢
  rw [hzl] at hz2 ⊢
  clear hyl hzl
  go_wp2_with fail
  refine HQ.out.mono ?_
  rintro e w4 ⟨⟨x, rfl, hx⟩, hb4⟩
  have hx2 : Hid (IsE l x w4) := Lib.hid (row_isE hx.out)
  rw [hL.out] at hx
  obtain ⟨xa, xc, rfl⟩ := own_slice hx.out
  replace hy2 := Lib.hid (hy2.out.up hb4)
  replace hz2 := Lib.hid (hz2.out.up hb4)
  replace HB := below_then HB hb4
  clear HQ hb4 hx
  obtain ⟨A3, hs3, hB3⟩ := (hv0.out.up HB).hi at_ hatn
  have HE := Lib.hid (beq_v _ _ _ _ w4 hy2.out hB3)
  rw [decide_eq_true (rfl : b.take at_ = b.take at_)] at HE
  have HF := Lib.hid (eqvE_any l _ _ w4 (by have := hl0.out; omega) hz2.out hx2.out)
  clear hB3
  go_wp2_with fail
  refine HE.out.mono ?_
  rintro e wn ⟨rfl, rfl⟩
  clear HE
  go_wp2_with fail
  refine HF.out.mono ?_
  rintro e w5 ⟨rfl, hb5⟩
  replace HB := below_then HB hb5
  go_wp2_with fail
  go_ret
  exact ⟨rfl, HB⟩

end Go.Proofs.YtdcfpopbnkafaaaDoor
