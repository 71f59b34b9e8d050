/- journal: the walk of JournalRead. -/
import Derived.Test.YtdcfpopbnkafaaaDoorJoX
set_option linter.unusedVariables false
namespace Go.Proofs.YtdcfpopbnkafaaaDoor
open Go.ChangeShapes Go.WideShapes Go.ChangeAt Go.RowKit

set_option maxRecDepth 100000 in
set_option maxHeartbeats 4000000 in
theorem journalRead_walk (l : List Ent) (ao : Option Addr) (cap : Nat) (hl : l.length ≤ cap) (hc : cap ≤ 9223372036854775807) (cut0 : Int) (hat : (Lit.int .u16 cut0).wf = true) (w : World) (hfr : RowAt encE 3 w.heap.size w ao l) (hfm : (ao = none ∧ l.length = 0 ∧ cap = 0) ∨ ∃ b off, ao = some ⟨b, off, none⟩) (he : Env w) :
    Calls Tryd.prog 9 #[.slice ao l.length cap, .int .u16 cut0] w fun e w' => e = .returned (.bool true) ∧ Below w.heap.size w w' := by
  obtain ⟨at1, rfl, hat1⟩ := limU16 hat
  have he0 := Lib.hid he
  have hl0 : Hid (IsE l (.slice ao l.length cap) w) := Lib.hid ⟨ao, cap, rfl, hl, hc, hfr⟩
  obtain ⟨L, hL⟩ : ∃ L, l.length = L := ⟨_, rfl⟩
  rw [hL] at hl0 hl ⊢
  have hLn := Lib.hid hL
  clear he hl hat hfr hfm hL
  obtain ⟨p, hp⟩ : ∃ p, decide ((20 : Int) < (L : Int)) = p := ⟨_, rfl⟩
  go_enter Tryd.func9, Tryd.ntmps9
  go_wp2_with fail
  refine (awake_v w he0.out).mono ?_
  rintro e w1 ⟨rfl, HB⟩
  obtain ⟨lb, hlb⟩ : ∃ lb, longE l = lb := ⟨_, rfl⟩
  have HL := Lib.hid (longE_v l _ w1 (hl0.out.up HB))
  rw [hlb] at HL
  go_wp2_with fail
  refine HL.out.mono ?_
  rintro e w2 ⟨rfl, hb2⟩
  replace HB := below_then HB hb2
  clear HL hb2
  rcases lb with _ | _
  rotate_left
  · clear hlb
    go_wp2_with fail
    go_ret
    exact ⟨rfl, HB⟩
  have hsh := Lib.hid (longE_no hlb)
  clear hlb
  rcases p with _ | _
  rotate_left
  · go_wp2_with fail
    go_ret
    exact ⟨rfl, HB⟩
  have hL20 : L ≤ 20 := by have := of_decide_eq_false hp; omega
  have hs : Hid (∀ x ∈ l, x.name.size ≤ 10000) := Lib.hid fun x hx => by have := hsh.out.2 x hx; omega
  obtain ⟨vl, hvl⟩ : ∃ vl, logV l = vl := ⟨_, rfl⟩
  have HE := Lib.hid (enc_v l _ w2 hs.out (he0.out.bel HB) (hl0.out.up HB))
  have HV := Lib.hid (fun u (hb : Below w.heap.size w u) => valid_v l _ u hs.out (hl0.out.up hb))
  rw [hvl] at HE HV
  go_wp2_with fail
  refine HE.out.mono ?_
  rintro e w3 ⟨⟨q1, q2⟩, hb3⟩
  replace HB := below_then HB hb3
  clear HE hb3
  rcases vl with _ | _
  · obtain rfl := q1 rfl
    clear q1 q2
    go_wp2_with fail
    refine (HV.out _ HB).mono ?_
    rintro e w4 ⟨rfl, hb4⟩
    replace HB := below_then HB hb4
    go_wp2_with fail
    go_ret
    exact ⟨rfl, HB⟩
  obtain ⟨x, rfl, hx⟩ := q2 rfl
  clear q1 q2 HV
  obtain ⟨xa, N, xc, rfl, hN, -, -⟩ := hx.out.shape
  obtain ⟨d1, d2, d3⟩ := dec_enc hvl
  have hJl : N ≤ 70000 := by omega
  have hcnt : (encJ l).count 10 = L := by
    have := enc_10 l [] (logV_words hvl)
    have h2 := hLn.out
    have h3 : (encJ l).count 10 = (encF [] l).count 10 := rfl
    rw [h3, this]
    simp
    omega
  obtain ⟨M, hM⟩ : ∃ M, N + 1 = M := ⟨_, rfl⟩
  obtain ⟨k, hk⟩ : ∃ k, at1 % M = k := ⟨_, rfl⟩
  have hkN : k ≤ N := by have := Nat.mod_lt at1 (show 0 < M by omega); omega
  have hw1 : IntKind.i64.wrap ((N : Int) + 1) = (M : Int) := by rw [IntWalk.i64_in _ (by omega)]; omega
  have hrem : Int.tmod (at1 : Int) (M : Int) = (k : Int) := by rw [← hk]; exact Int.ofNat_tmod at1 M
  have hM0 : ((M : Int) == 0) = false := by simp; omega
  obtain ⟨i, er, g1, g2, g3, g4, g5, g6⟩ := good_begin hvl (k := k) (by omega)
  have hcl : ((encJ l).take k).length = k := by rw [List.length_take]; omega
  obtain ⟨eN, eB, eL, eG, eD⟩ := rec_good (b := (encJ l).take k) (by omega) g2
  obtain ⟨at_, hat_⟩ : ∃ at_, (encJ (l.take i)).length = at_ := ⟨_, rfl⟩
  have eB2 : recB ((encJ l).take k) = (encJ l).take at_ := by rw [eB, hat_, List.take_take]; congr 1; omega
  rw [hat_] at eG g4 g5
  have hil : (l.take i).length = i := by rw [List.length_take]; omega
  rw [hil] at eG
  have ez : ((er : Int) == 0) = ((at_ : Int) == (k : Int)) := by
    rw [Bool.eq_iff_iff]
    simp only [beq_iff_eq]
    rw [g5]
    omega
  have hi20 : i ≤ L := by have := hLn.out; omega
  have HD := Lib.hid (decode_v _ _ (.inl (by omega)) w3 (he0.out.bel HB) hx.out)
  rw [d1, d2] at HD
  obtain ⟨B, hB⟩ : ∃ B, encJ l = B := ⟨_, rfl⟩
  obtain ⟨Bk, hBk⟩ : ∃ Bk, B.take k = Bk := ⟨_, rfl⟩
  rw [hB] at hx hN hcnt eN eB2 eL eG eD hcl g3
  rw [hBk] at eN eB2 eL eG eD hcl g3
  have eH := Lib.hid (And.intro hN hBk)
  replace eN := Lib.hid eN
  replace eB2 := Lib.hid eB2
  replace eL := Lib.hid eL
  replace eG := Lib.hid eG
  replace eD := Lib.hid eD
  replace g3 := Lib.hid g3
  replace hcl := Lib.hid hcl
  replace hil := Lib.hid hil
  replace hcnt := Lib.hid hcnt
  replace ez := Lib.hid ez
  replace hk := Lib.hid hk
  replace hJl := Lib.hid hJl
  clear hN hB hBk g1 g2 g5 g6 hat_ eB d1 d2 d3 hvl
  go_wp2_with fail
  refine HD.out.mono ?_
  rintro e w4 ⟨⟨y, rfl, hy⟩, hb4⟩
  have hy2 : Hid (IsE l y w4) := Lib.hid (row_isE hy.out)
  obtain ⟨ya, yn, yc, rfl, -, -⟩ := hy2.out.shape
  replace HB := below_then HB hb4
  replace hx := Lib.hid (hx.out.up hb4)
  have HQ := Lib.hid (eqvE_any l _ _ w4 (by have := hLn.out; omega) hy2.out (hl0.out.up HB))
  clear HD hb4 hy
  go_wp2_with fail
  refine HQ.out.mono ?_
  rintro e w5 ⟨rfl, hb5⟩
  replace HB := below_then HB hb5
  replace hx := Lib.hid (hx.out.up hb5)
  clear HQ hb5 hy2
  have hcv := Lib.run_convert_bytes_const (P := Tryd.prog) w5 22 5 #[.int .u8 10] 1 1 Tryd.underlying22 Tryd.underlying5
  go_wp2_with fail
  generalize hWW : World.alloc _ _ = W6
  have hbW : Below w5.heap.size w5 W6 := by rw [← hWW]; exact below_al (Below.refl _ _) _
  have hS : IsB [10] (.slice (some ⟨w5.heap.size, 0, none⟩) 1 1) W6 := by rw [← hWW]; exact lit_isB w5 _ [10] 1 rfl (by decide) rfl _
  have HN := Lib.hid (count_v B _ _ W6 (hx.out.up hbW) hS)
  rw [hcnt.out] at HN
  replace HB := below_then HB hbW
  replace hx := Lib.hid (hx.out.up hbW)
  clear hWW hbW hS hcv
  refine HN.out.mono ?_
  rintro e wn ⟨rfl, rfl⟩
  clear HN
  have zL : ((L : Int) != (L : Int)) = false := by simp
  obtain ⟨A1, hs1, hB1⟩ := hx.out.hi k (by omega)
  rw [eH.out.2] at hB1
  replace hB1 := Lib.hid hB1
  have HR := Lib.hid (recover_v Bk _ (.inl (by have := hcl.out; have := hkN; have := hJl.out; omega)) W6 (he0.out.bel HB) hB1.out)
  go_wp2_with fail
  refine HR.out.mono ?_
  rintro e w7 ⟨⟨y, z, er2, rfl, hr, hy, hz⟩, hb7⟩
  have her : er2 = 0 := hr.out.trans eN.out
  subst her
  have hy7 : Hid (IsB (B.take at_) y w7) := Lib.hid (by have := row_isB hy.out; rwa [eB2.out] at this)
  have hz7 : Hid (IsE (l.take i) z w7) := Lib.hid (by have := row_isE hz.out; rwa [eL.out] at this)
  obtain ⟨za, zn, zc, rfl, hzn, -⟩ := hz7.out.shape
  obtain ⟨pa, pn, pc, rfl, hpn, -⟩ := hy7.out.shape
  have hzn2 : zn = i := hzn.trans hil.out
  have hpn2 : pn = at_ := by rw [hpn, List.length_take]; have := eH.out.1; omega
  subst hzn2 hpn2
  replace HB := below_then HB hb7
  replace hx := Lib.hid (hx.out.up hb7)
  clear HR hb7 hr hy hz hzn hpn hs1 hB1
  obtain ⟨A2, hs2, hB2⟩ := hx.out.hi k (by omega)
  rw [eH.out.2] at hB2
  replace hB2 := Lib.hid hB2
  have HG := Lib.hid (goodN_v Bk _ (.inl (by have := hcl.out; have := hkN; have := hJl.out; omega)) w7 (he0.out.bel HB) hB2.out)
  rw [eG.out] at HG
  dsimp only at HG
  go_wp2_with fail
  refine HG.out.mono ?_
  rintro e w8 ⟨rfl, hb8⟩
  replace HB := below_then HB hb8
  replace hx := Lib.hid (hx.out.up hb8)
  replace hy7 := Lib.hid (hy7.out.up hb8)
  replace hz7 := Lib.hid (hz7.out.up hb8)
  clear HG hb8 hs2 hB2
  obtain ⟨hs3, hE3⟩ := (hl0.out.up HB).hi zn hi20
  replace hE3 := Lib.hid hE3
  have z1 : ((zn : Int) != (zn : Int)) = false := by simp
  have z2 : ((pn : Int) != (pn : Int)) = false := by simp
  have HQ := Lib.hid (eqvE_any (l.take zn) _ _ w8 (by have := hLn.out; rw [List.length_take]; omega) hz7.out hE3.out)
  go_wp2_with fail
  refine HQ.out.mono ?_
  rintro e w9 ⟨rfl, hb9⟩
  replace HB := below_then HB hb9
  replace hx := Lib.hid (hx.out.up hb9)
  replace hy7 := Lib.hid (hy7.out.up hb9)
  clear HQ hb9 hE3 hz7 hs3
  obtain ⟨A4, hs4, hB4⟩ := hx.out.hi pn (by omega)
  have HP := Lib.hid (beq_v _ _ _ _ w9 hy7.out hB4)
  rw [decide_eq_true rfl] at HP
  clear hB4
  go_wp2_with fail
  refine HP.out.mono ?_
  rintro e wn ⟨rfl, rfl⟩
  clear HP hs4 hy7
  obtain ⟨A5, hs5, hB5⟩ := hx.out.hi k (by omega)
  rw [eH.out.2] at hB5
  replace hB5 := Lib.hid hB5
  have hcv := Lib.run_convert_bytes_const (P := Tryd.prog) w9 22 5 #[.int .u8 10] 1 1 Tryd.underlying22 Tryd.underlying5
  go_wp2_with fail
  generalize hWW : World.alloc _ _ = W10
  have hbW : Below w9.heap.size w9 W10 := by rw [← hWW]; exact below_al (Below.refl _ _) _
  have hS : IsB [10] (.slice (some ⟨w9.heap.size, 0, none⟩) 1 1) W10 := by rw [← hWW]; exact lit_isB w9 _ [10] 1 rfl (by decide) rfl _
  have HN := Lib.hid (count_v Bk _ _ W10 (hB5.out.up hbW) hS)
  rw [g3.out] at HN
  replace HB := below_then HB hbW
  replace hx := Lib.hid (hx.out.up hbW)
  clear hWW hbW hS hcv hs5 hB5
  refine HN.out.mono ?_
  rintro e wn ⟨rfl, rfl⟩
  clear HN
  obtain ⟨A6, hs6, hB6⟩ := hx.out.hi k (by omega)
  rw [eH.out.2] at hB6
  replace hB6 := Lib.hid hB6
  have HD := Lib.hid (decode_v Bk _ (.inl (by have := hcl.out; have := hkN; have := hJl.out; omega)) W10 (he0.out.bel HB) hB6.out)
  rw [eD.out] at HD
  go_wp2_with fail
  refine HD.out.mono ?_
  rintro e w11 ⟨⟨dv, rfl, -⟩, hb11⟩
  replace HB := below_then HB hb11
  have ez2 := ez.out
  have z4 : ((zn : Int) == (zn : Int)) = true := by simp
  obtain ⟨t1, ht1⟩ : ∃ t1, ((er : Int) == 0) = t1 := ⟨_, rfl⟩
  have ht2 : ((pn : Int) == (k : Int)) = t1 := by rw [← ez2, ht1]
  have ht3 : (t1 == t1) = true := by simp
  clear HD hb11 hs6 hB6 ez2 ez
  go_wp2_with fail
  go_ret
  exact ⟨by first | rfl | simp, HB⟩

end Go.Proofs.YtdcfpopbnkafaaaDoor
