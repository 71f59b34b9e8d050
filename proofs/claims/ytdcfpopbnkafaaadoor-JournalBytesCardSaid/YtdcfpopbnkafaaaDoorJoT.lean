/- journal: the walk of JournalBytes. -/
import Derived.Test.YtdcfpopbnkafaaaDoorJoS
set_option linter.unusedVariables false
namespace Go.Proofs.YtdcfpopbnkafaaaDoor
open Go.ChangeShapes Go.WideShapes Go.ChangeAt Go.RowKit

set_option maxRecDepth 100000 in
set_option maxHeartbeats 2000000 in
theorem journalBytes_walk (l : List Ent) (ao : Option Addr) (cap : Nat) (hl : l.length ≤ cap) (hc : cap ≤ 9223372036854775807) (b : List UInt8) (v : Value) (w : World) (hfr : RowAt encE 3 w.heap.size w ao l) (hfm : (ao = none ∧ l.length = 0 ∧ cap = 0) ∨ ∃ b off, ao = some ⟨b, off, none⟩) (hv : IsB b v w) (he : Env w) :
    Calls Tryd.prog 4 #[.slice ao l.length cap, v] w fun e w' => e = .returned (.bool true) ∧ Below w.heap.size w w' := by
  obtain ⟨a, n, c, rfl, -, -⟩ := hv.shape
  have he0 := Lib.hid he
  have hv0 := Lib.hid hv
  have hl0 : Hid (IsE l (.slice ao l.length cap) w) := Lib.hid ⟨ao, cap, rfl, hl, hc, hfr⟩
  obtain ⟨L, hL⟩ : ∃ L, l.length = L := ⟨_, rfl⟩
  rw [hL] at hl0 ⊢
  replace hL := Lib.hid hL
  clear he hv hl hc hfr hfm
  go_enter Tryd.func4, Tryd.ntmps4
  go_wp2_with fail
  refine (awake_v w he0.out).mono ?_
  rintro e w1 ⟨rfl, HB⟩
  obtain ⟨lb, hlb⟩ : ∃ lb, longE l = lb := ⟨_, rfl⟩
  have HL := Lib.hid (longE_v l _ w1 (hl0.out.up HB))
  rw [hlb] at HL
  go_wp2_with fail
  refine HL.out.mono ?_
  rintro e w2 ⟨rfl, hb2⟩
  replace HB := below_then HB hb2
  clear HL hb2
  rcases lb with _ | _
  rotate_left
  · clear hlb
    go_wp2_with fail
    go_ret
    exact ⟨rfl, HB⟩
  have hsh := Lib.hid (longE_no hlb)
  clear hlb
  obtain ⟨hh, hhh⟩ : ∃ hh, heavyB b.length = hh := ⟨_, rfl⟩
  have HH := Lib.hid (heavy_v b _ w2 (hv0.out.up HB))
  rw [hhh] at HH
  go_wp2_with fail
  refine HH.out.mono ?_
  rintro e wn ⟨rfl, rfl⟩
  clear HH
  rcases hh with _ | _
  rotate_left
  · clear hhh
    go_wp2_with fail
    go_ret
    exact ⟨rfl, HB⟩
  have hbl : Hid (b.length ≤ 1000000 ∨ 1048576 < b.length) := Lib.hid (by have := heavy_no hhh; omega)
  clear hhh
  have hs : Hid (∀ x ∈ l, x.name.size ≤ 10000) := Lib.hid fun x hx => by have := hsh.out.2 x hx; omega
  have HE := Lib.hid (enc_v l _ w2 hs.out (he0.out.bel HB) (hl0.out.up HB))
  have HV := Lib.hid (fun u (hb : Below w.heap.size w u) => valid_v l _ u hs.out (hl0.out.up hb))
  have HW := Lib.hid (fun u (hb : Below w.heap.size w u) => refvalid_v l _ u hs.out (hl0.out.up hb))
  obtain ⟨vl, hvl⟩ : ∃ vl, logV l = vl := ⟨_, rfl⟩
  rw [hvl] at HE HV HW
  go_wp2_with fail
  refine HE.out.mono ?_
  rintro e w3 ⟨⟨q1, q2⟩, hb3⟩
  replace HB := below_then HB hb3
  clear HE hb3
  rcases vl with _ | _
  · obtain rfl := q1 rfl
    clear q1 q2
    go_wp2_with fail
    refine (HV.out _ HB).mono ?_
    rintro e w4 ⟨rfl, hb4⟩
    replace HB := below_then HB hb4
    clear hb4
    go_wp2_with fail
    refine (HW.out _ HB).mono ?_
    rintro e wn ⟨rfl, rfl⟩
    go_wp2_with fail
    refine (HW.out _ HB).mono ?_
    rintro e wn ⟨rfl, rfl⟩
    clear HV HW
    have HD := Lib.hid (decode_v b _ hbl.out w4 (he0.out.bel HB) (hv0.out.up HB))
    obtain ⟨E, hE⟩ : ∃ E, decE b = E := ⟨_, rfl⟩
    rw [hE] at HD
    go_wp2_with fail
    refine HD.out.mono ?_
    rintro e u1 ⟨⟨y, rfl, hy⟩, hc1⟩
    replace HB := below_then HB hc1
    have hy2 : Hid (IsE (decL b) y u1) := Lib.hid (row_isE hy.out)
    obtain ⟨ya, yc, rfl⟩ := own_slice hy.out
    have HR := Lib.hid (refdecode_v b _ hbl.out u1 (hv0.out.up HB))
    rw [hE] at HR
    obtain ⟨DL, hDL⟩ : ∃ DL, (decL b).length = DL := ⟨_, rfl⟩
    rw [hDL] at hy2 ⊢
    clear HD hc1 hy hE
    go_wp2_with fail
    refine HR.out.mono ?_
    rintro e u2 ⟨⟨z, rfl, hz⟩, hc2⟩
    replace HB := below_then HB hc2
    replace hy2 := Lib.hid (hy2.out.up hc2)
    have hz2 : Hid (IsE (decL b) z u2) := Lib.hid (row_isE hz.out)
    rw [hDL] at hz
    obtain ⟨za, zc, rfl⟩ := own_slice hz.out
    have HQ := Lib.hid (eqvE_any (decL b) _ _ u2 (by have := (decL_len b).1; omega) hy2.out hz2.out)
    have hee : (E == E) = true := by simp
    clear HR hc2 hz hDL
    go_wp2_with fail
    refine HQ.out.mono ?_
    rintro e u3 ⟨rfl, hc3⟩
    replace HB := below_then HB hc3
    have HS := Lib.hid (sum_v b _ u3 (hv0.out.up HB))
    have HT := Lib.hid (refsum_v b _ u3 (hv0.out.up HB))
    generalize sumB b = S at *
    have hss : ((S : Int) == (S : Int)) = true := by simp
    clear HQ hc3 hy2 hz2
    go_wp2_with fail
    refine HS.out.mono ?_
    rintro e wn ⟨rfl, rfl⟩
    clear HS
    go_wp2_with fail
    refine HT.out.mono ?_
    rintro e wn ⟨rfl, rfl⟩
    clear HT
    go_wp2_with fail
    go_ret
    exact ⟨rfl, HB⟩
  · obtain ⟨x, rfl, hx⟩ := q2 rfl
    clear q1 q2
    obtain ⟨xa, xn, xc, rfl, -, -⟩ := hx.out.shape
    go_wp2_with fail
    refine (HV.out _ HB).mono ?_
    rintro e w4 ⟨rfl, hb4⟩
    replace HB := below_then HB hb4
    replace hx := Lib.hid (hx.out.up hb4)
    clear hb4
    go_wp2_with fail
    refine (HW.out _ HB).mono ?_
    rintro e wn ⟨rfl, rfl⟩
    go_wp2_with fail
    refine (HW.out _ HB).mono ?_
    rintro e wn ⟨rfl, rfl⟩
    clear HV HW
    have HX := Lib.hid (refencode_v l _ w4 hvl (hl0.out.up HB))
    go_wp2_with fail
    refine HX.out.mono ?_
    rintro e w5 ⟨⟨z, rfl, hz⟩, hb5⟩
    replace HB := below_then HB hb5
    replace hx := Lib.hid (hx.out.up hb5)
    have HY := Lib.hid (beq_v _ _ _ _ w5 hx.out hz.out)
    rw [decide_eq_true (rfl : encJ l = encJ l)] at HY
    obtain ⟨za, zn, zc, rfl, -, -⟩ := hz.out.shape
    clear HX hb5 hx hz
    go_wp2_with fail
    refine HY.out.mono ?_
    rintro e wn ⟨rfl, rfl⟩
    clear HY
    have HD := Lib.hid (decode_v b _ hbl.out w5 (he0.out.bel HB) (hv0.out.up HB))
    obtain ⟨E, hE⟩ : ∃ E, decE b = E := ⟨_, rfl⟩
    rw [hE] at HD
    go_wp2_with fail
    refine HD.out.mono ?_
    rintro e u1 ⟨⟨y, rfl, hy⟩, hc1⟩
    replace HB := below_then HB hc1
    have hy2 : Hid (IsE (decL b) y u1) := Lib.hid (row_isE hy.out)
    obtain ⟨ya, yc, rfl⟩ := own_slice hy.out
    have HR := Lib.hid (refdecode_v b _ hbl.out u1 (hv0.out.up HB))
    rw [hE] at HR
    obtain ⟨DL, hDL⟩ : ∃ DL, (decL b).length = DL := ⟨_, rfl⟩
    rw [hDL] at hy2 ⊢
    clear HD hc1 hy hE
    go_wp2_with fail
    refine HR.out.mono ?_
    rintro e u2 ⟨⟨z, rfl, hz⟩, hc2⟩
    replace HB := below_then HB hc2
    replace hy2 := Lib.hid (hy2.out.up hc2)
    have hz2 : Hid (IsE (decL b) z u2) := Lib.hid (row_isE hz.out)
    rw [hDL] at hz
    obtain ⟨za, zc, rfl⟩ := own_slice hz.out
    have HQ := Lib.hid (eqvE_any (decL b) _ _ u2 (by have := (decL_len b).1; omega) hy2.out hz2.out)
    have hee : (E == E) = true := by simp
    clear HR hc2 hz hDL
    go_wp2_with fail
    refine HQ.out.mono ?_
    rintro e u3 ⟨rfl, hc3⟩
    replace HB := below_then HB hc3
    have HS := Lib.hid (sum_v b _ u3 (hv0.out.up HB))
    have HT := Lib.hid (refsum_v b _ u3 (hv0.out.up HB))
    generalize sumB b = S at *
    have hss : ((S : Int) == (S : Int)) = true := by simp
    clear HQ hc3 hy2 hz2
    go_wp2_with fail
    refine HS.out.mono ?_
    rintro e wn ⟨rfl, rfl⟩
    clear HS
    go_wp2_with fail
    refine HT.out.mono ?_
    rintro e wn ⟨rfl, rfl⟩
    clear HT
    go_wp2_with fail
    go_ret
    exact ⟨rfl, HB⟩

end Go.Proofs.YtdcfpopbnkafaaaDoor
