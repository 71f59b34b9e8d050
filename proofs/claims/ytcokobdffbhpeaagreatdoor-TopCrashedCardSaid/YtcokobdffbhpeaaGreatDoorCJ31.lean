/- The walk of TopCrashed. slices among a law's arguments, opened (shared). -/
import Derived.Test.YtcokobdffbhpeaaGreatDoorCJ30
import Derived.Test.YtcokobdffbhpeaaGreatDoorCJ01
import Derived.Deep.Slices
import Derived.WideShapes
import Derived.ChangeArms
import Derived.ProofKit
set_option linter.unusedVariables false
namespace Go.Proofs.YtcokobdffbhpeaaGreatDoor
open Go.ChangeShapes Go.WideShapes Go.ChangeAt Go.RowKit
set_option maxRecDepth 100000 in
set_option maxHeartbeats 2000000 in
theorem topCrashed_walk (l : List Bun) (a1 : Option Addr) (c1 : Nat) (h1 : l.length ≤ c1) (hc1 : c1 ≤ 9223372036854775807) (limit cut0 by0 : Int) (hcut : (Lit.int .u16 cut0).wf = true) (hby : (Lit.int .u8 by0).wf = true) (w : World) (r1 : RowAt encB 4 w.heap.size w a1 l) (hf1 : (a1 = none ∧ l.length = 0 ∧ c1 = 0) ∨ ∃ b off, a1 = some ⟨b, off, none⟩) (he : Env w) :
    Calls Tryz.prog 3 #[.slice a1 l.length c1, .int .i64 limit, .int .u16 cut0, .int .u8 by0] w fun e w' => e = .returned (.bool true) ∧ Below w.heap.size w w' := by
  obtain ⟨at1, rfl, hat1⟩ := limU16 hcut
  obtain ⟨by1, rfl, hby1⟩ := limU8 hby
  have he0 := Lib.hid he
  have r10 := Lib.hid r1
  have HSh := Lib.hid (fun (W : World) (hW : Below w.heap.size w W) => short36_any l 10 a1 c1 h1 (by decide) hc1 _ W (Lib.hid ((r1.bel (Nat.le_refl _) hW).mono hW.size)))
  have HG := Lib.hid (fun (hn : l.length < 20) (hs : ∀ x ∈ l, x.tag.size ≤ 60 ∧ x.mark.size ≤ 60) (W : World) (hW : Below w.heap.size w W) => greedy_any l a1 c1 limit h1 hc1 hn (Lib.hid hs) W (Lib.hid ((r1.bel (Nat.le_refl _) hW).mono hW.size)))
  obtain ⟨sb, hsb⟩ : ∃ sb, shortB l 10 = sb := ⟨_, rfl⟩
  rw [hsb] at HSh
  have hsy : Hid (sb = true → ∀ x ∈ l, x.tag.size ≤ 60 ∧ x.mark.size ≤ 60) := Lib.hid fun h => shortB_yes (hsb.trans h)
  obtain ⟨N1, hN1⟩ : ∃ N1, l.length = N1 := ⟨_, rfl⟩
  have hcc := Lib.hid (And.intro h1 hc1)
  have hGL : Hid (∀ hk : GivK l limit, (greedG (massN l) limit (ordN (massN l) N1)).1.length = (greedG (massN l) limit (ordN (massN l) N1)).1.length) := Lib.hid fun _ => rfl
  rw [hN1] at HSh HG h1 ⊢
  have hN1' := Lib.hid hN1
  have hby2 := Lib.hid hby1
  clear he r1 hcut hby hf1 hsb hN1 hby1 hGL
  go_enter Tryz.func3, Tryz.ntmps3
  go_wp2_with fail
  refine (yawake_any w he0.out.tab).mono ?_
  rintro e w1 ⟨rfl, HB⟩
  by_cases q1 : 10 < N1
  · have g1 : decide ((10 : Int) < (N1 : Int)) = true := decide_eq_true (by omega)
    clear q1 HSh HG
    go_wp2_with fail
    go_ret
    exact ⟨rfl, HB⟩
  have g1 : decide ((10 : Int) < (N1 : Int)) = false := decide_eq_false (by omega)
  go_wp2_with fail
  refine (HSh.out w1 HB).mono ?_
  rintro e w2 ⟨rfl, rfl⟩
  clear HSh
  rcases sb with _ | _
  · clear HG hsy
    go_wp2_with fail
    go_ret
    exact ⟨rfl, HB⟩
  replace hsy := Lib.hid (hsy.out (by first | rfl | trivial))
  have HGk := Lib.hid (HG.out (by omega) hsy.out w1 HB)
  clear HG
  obtain ⟨ge, hge⟩ : ∃ ge, givE l limit = ge := ⟨_, rfl⟩
  have hgk : Hid (ge = 0 → GivK l limit) := Lib.hid fun h => givK (hge.trans h)
  rw [hge] at HGk
  clear hge
  go_wp2_with fail
  refine HGk.out.mono ?_
  rintro e w2 ⟨hbad, hgood, hb⟩
  replace HB := below_then HB hb
  clear hb HGk
  by_cases hg0 : ge = 0
  rotate_left
  · obtain rfl := hbad hg0
    have g2 : (ge != 0) = true := by simp [hg0]
    clear hbad hgood hg0 hgk
    go_wp2_with fail
    go_ret
    exact ⟨rfl, HB⟩
  obtain ⟨vo, vm, vs, rfl, hGr⟩ := hgood hg0
  have hk := hgk.out hg0
  subst hg0
  have hld := hGr.ldv
  obtain ⟨L, hL⟩ : ∃ L, (greedG (massN l) limit (ordN (massN l) N1)).1 = L := ⟨_, rfl⟩
  rw [hL] at hld
  obtain ⟨hLi, hLf, hLn, S, hY⟩ := greed_all (L := L) hk (by rw [hN1'.out]; exact hL) (by rw [hN1'.out]; omega) hsy.out
  clear hbad hgood hGr hL hk hgk
  have HY := Lib.hid (yard_any l a1 c1 hcc.out.1 (by rw [hN1'.out]; omega) L vo vs hLi (by omega) (by omega) w2 ((r10.out.bel (Nat.le_refl _) HB).mono HB.size) hld)
  obtain ⟨⟨ao, co, rfl, -⟩, -, -⟩ := hld
  rw [hN1'.out] at HY
  obtain ⟨E, hE⟩ : ∃ E, yardE (l.map (·.tag)) L = E := ⟨_, rfl⟩
  rw [hE] at HY hY
  obtain ⟨nO, hnO⟩ : ∃ nO, L.length = nO := ⟨_, rfl⟩
  rw [hnO] at HY ⊢
  clear hLi hLf hLn hE hnO vs
  have hrow := Lib.hid (fun (W : World) (hW : Below w.heap.size w W) => ((r10.out.bel (Nat.le_refl _) hW).mono hW.size))
  go_wp2_with fail
  refine HY.out.mono ?_
  rintro e w3 ⟨⟨ev, rfl, hev⟩, hb⟩
  replace HB := below_then HB hb
  clear hb HY
  obtain ⟨ea, N, ec, rfl, hN, -, -⟩ := hev.shape
  have hEl := hY.len
  have hNb : N ≤ 21 := by rw [hN, hEl, hN1'.out]; omega
  have hev1 := Lib.hid hev
  have hval := hY.val
  have hnm := Lib.hid (names_le hval)
  have HEn : Hid (Calls Tryz.prog 8 #[.slice ea N ec] w3 fun e w' => EncP E true e w' ∧ Below w3.heap.size w3 w') := Lib.hid (by
    obtain ⟨a', c', e, z1, z2, z3⟩ := hev1.out
    injection e with e1 e2 e3
    have := encode_v E a' c' z1 z2 hnm.out w3 (he0.out.bel HB) z3
    rw [hval] at this
    rw [e1, e2, e3]
    exact this)
  replace hY := Lib.hid hY
  replace hN := Lib.hid hN
  clear hev hEl hnm
  go_wp2_with fail
  refine HEn.out.mono ?_
  rintro e w4 ⟨⟨-, hE2⟩, hb⟩
  obtain ⟨jv, rfl, hjv⟩ := hE2 (by first | rfl | trivial)
  replace HB := below_then HB hb
  replace hev1 := Lib.hid (hev1.out.up hb)
  obtain ⟨ja, J, jc, rfl, hJ, -, -⟩ := hjv.out.shape
  have hJl : J ≤ 70000 := by rw [hJ]; exact (dec_enc hval).2.2
  obtain ⟨M, hM⟩ : ∃ M, J + 1 = M := ⟨_, rfl⟩
  obtain ⟨k2, hk2⟩ : ∃ k, at1 % M = k := ⟨_, rfl⟩
  have hk2J : k2 ≤ J := by have := Nat.mod_lt at1 (show 0 < M by omega); omega
  have hw1 : IntKind.i64.wrap ((J : Int) + 1) = (M : Int) := by rw [IntWalk.i64_in _ (by omega)]; omega
  have hrem : Int.tmod (at1 : Int) (M : Int) = (k2 : Int) := by rw [← hk2]; exact Int.ofNat_tmod at1 M
  have hM0 : ((M : Int) == 0) = false := by simp; omega
  replace hk2 := Lib.hid hk2
  obtain ⟨A1, hs1, hB1⟩ := hjv.out.hi k2 hk2J
  obtain ⟨i, er, gg1, gg2, gg3, gg4, gg5, gg6⟩ := good_begin hval (k := k2) (by omega)
  have htl : ((encJ E).take k2).length ≤ 70000 := by rw [List.length_take]; omega
  obtain ⟨eN, eB, eL, _, _⟩ := rec_good (b := (encJ E).take k2) (by omega) gg2
  have eB2 : recB ((encJ E).take k2) = encJ (E.take i) := by
    obtain ⟨u, hu⟩ := gg6
    rw [eB, List.take_take, Nat.min_eq_left gg4, hu, List.take_left]
  have hvi := Lib.hid (logV_take hval i)
  obtain ⟨T, hT⟩ := hY.out.at i
  obtain ⟨re1, re2⟩ := rep_enc hY.out.new hvi.out hT.play
  have hil : i ≤ N := by rw [hN.out]; exact gg1
  have hlen : (E.take i).length = i := by rw [List.length_take]; omega
  have HR := Lib.hid (recover_v ((encJ E).take k2) _ (.inl (by omega)) w4 (he0.out.bel HB) hB1)
  obtain ⟨G2, hG2⟩ : ∃ G2, (encJ (E.take i)).length = G2 := ⟨_, rfl⟩
  rw [hG2] at gg4
  have hjl := (dec_enc hvi.out).2.2
  rw [hG2] at hjl
  replace eN := Lib.hid eN
  replace eB2 := Lib.hid eB2
  replace eL := Lib.hid eL
  replace hlen := Lib.hid hlen
  replace hG2 := Lib.hid hG2
  replace hJ := Lib.hid hJ
  replace hT := Lib.hid hT
  have hre := Lib.hid (And.intro re1 re2)
  replace hjv := Lib.hid hjv.out
  have hJl2 := Lib.hid hJl
  have hHB4 := Lib.hid HB
  clear gg1 gg2 gg3 gg5 gg6 eB re1 re2 htl hB1 hE2 hb HEn
  go_wp2_with fail
  refine HR.out.mono ?_
  rintro e w5 ⟨⟨y, z, er2, rfl, hr2, hy, hz⟩, hb⟩
  have her : er2 = 0 := hr2.out.trans eN.out
  subst her
  have hy5 : Hid (IsB (encJ (E.take i)) y w5) := Lib.hid (by have := row_isB hy.out; rwa [eB2.out] at this)
  have hz5 : Hid (IsE (E.take i) z w5) := Lib.hid (by have := row_isE hz.out; rwa [eL.out] at this)
  obtain ⟨za, zn, zc, rfl, hzn, -⟩ := hz5.out.shape
  have hzn2 : zn = i := hzn.trans hlen.out
  subst hzn2
  obtain ⟨pa, pn, pc, rfl, hpn, -⟩ := hy5.out.shape
  have hpn2 : pn = G2 := hpn.trans hG2.out
  subst hpn2
  replace HB := below_then HB hb
  replace hev1 := Lib.hid (hev1.out.up hb)
  replace hjv := Lib.hid (hjv.out.up hb)
  obtain ⟨hsl, hev2⟩ := hev1.out.hi zn hil
  have HQ := Lib.hid (eqvE_any (E.take zn) _ _ w5 (by rw [hlen.out]; omega) hz5.out hev2)
  have g3 : decide ((k2 : Int) < (pn : Int)) = false := decide_eq_false (by omega)
  have g4 : decide ((N : Int) < (zn : Int)) = false := decide_eq_false (by omega)
  clear HR hr2 hy hz hzn hpn hb hs1 hw1 hrem hM0 hev2
  go_wp2_with fail
  refine HQ.out.mono ?_
  rintro e w6 ⟨rfl, hb⟩
  replace HB := below_then HB hb
  replace hev1 := Lib.hid (hev1.out.up hb)
  replace hjv := Lib.hid (hjv.out.up hb)
  replace hz5 := Lib.hid (hz5.out.up hb)
  replace hy5 := Lib.hid (hy5.out.up hb)
  clear HQ hb hsl g3 g4
  have HRp := Lib.hid (fun (bs : List UInt8) (v : Value) (hbs : bs.length ≤ 1000000) (u : World) (hu : Below w.heap.size w u) (hv : IsB bs v u) => replay_any l mB (by decide) a1 c1 hcc.out.1 hcc.out.2 (Lib.hid hsy.out) bs v hbs u (he0.out.bel hu) (Lib.hid (hrow.out u hu)) hv)
  rw [hN1'.out, show (Value.string mB) = .string ⟨#[109]⟩ from rfl] at HRp
  have HP := Lib.hid (HRp.out (encJ (E.take zn)) _ (by have := hG2.out; omega) w6 HB hy5.out)
  unfold RepPost at HP
  rw [hre.out.1, hre.out.2] at HP
  go_wp2_with fail
  refine HP.out.mono ?_
  rintro e w7 ⟨-, hg7, hb67⟩
  obtain ⟨g, p, rfl, hs7, hfp⟩ := hg7 (by first | rfl | trivial)
  have hL0 : Hid (Lone (fun x => x < w6.heap.size) w7 g T) := Lib.hid ⟨p, hs7, fun x hx h => by have := hfp x hx; omega⟩
  have HB6 := Lib.hid HB
  have HA := Lib.hid (account_any T hT.out.ok g p w7 hs7)
  have hacc := hT.out.acc
  rw [hN1'.out] at hacc
  generalize T.at_.count 0 = x at HA hacc
  generalize T.at_.count 1 = y at HA hacc
  generalize T.at_.count 2 = z at HA hacc
  replace hs7 := Lib.hid hs7
  clear HP hg7 hfp HB hre hy5
  go_wp2_with fail
  refine HA.out.mono ?_
  rintro e w8 ⟨rfl, hb⟩
  replace hb67 := below_then hb67 hb
  replace hs7 := Lib.hid (hs7.out.bel hb)
  replace hL0 := Lib.hid (hL0.out.up hb)
  have HEs := Lib.hid (entries_any T hT.out.ok g p w8 hs7.out)
  obtain ⟨xy, hxy⟩ : ∃ xy : Nat, x + y = xy := ⟨_, rfl⟩
  have v1 : IntKind.i64.wrap ((x : Int) + (y : Int)) = (xy : Int) := by rw [IntWalk.i64_in _ (by omega)]; omega
  have v2 : IntKind.i64.wrap ((xy : Int) + (z : Int)) = (N1 : Int) := by rw [IntWalk.i64_in _ (by omega)]; omega
  have g5 : decide ((x : Int) < 0) = false := decide_eq_false (by omega)
  have g6 : decide ((y : Int) < 0) = false := decide_eq_false (by omega)
  have g7 : decide ((z : Int) < 0) = false := decide_eq_false (by omega)
  clear HA hb hacc hxy
  go_wp2_with fail
  refine HEs.out.mono ?_
  rintro e w9 ⟨⟨kv, rfl, hkv⟩, hb⟩
  replace hb67 := below_then hb67 hb
  replace hs7 := Lib.hid (hs7.out.bel hb)
  replace hL0 := Lib.hid (hL0.out.up hb)
  have hk9 : Hid (IsE (E.take zn) kv w9) := Lib.hid (by have := row_isE hkv.out; rwa [hT.out.kept] at this)
  obtain ⟨ka, kn, kc, rfl, hkn, -⟩ := hk9.out.shape
  have HQ2 := Lib.hid (eqvE_any (E.take zn) _ _ w9 (by rw [hlen.out]; omega) hk9.out (hz5.out.up hb67))
  clear HEs hb hkv v1 v2 g5 g6 g7 hkn
  go_wp2_with fail
  refine HQ2.out.mono ?_
  rintro e w10 ⟨rfl, hb⟩
  replace hb67 := below_then hb67 hb
  replace hL0 := Lib.hid (hL0.out.up hb)
  obtain ⟨A2, hs2, hev3⟩ := hev1.out.lo zn hil
  obtain ⟨N2, hN2⟩ : ∃ N2, N - zn = N2 := ⟨_, rfl⟩
  rw [hN2] at hs2 hev3
  have hdl : Hid ((E.drop zn).length = N2) := Lib.hid (by rw [List.length_drop, ← hN.out, hN2])
  have hrowE : Hid (RowAt encE 3 w6.heap.size w6 A2 (E.drop zn)) := Lib.hid (by
    obtain ⟨a', c', e, z1, z2, z3⟩ := hev3
    injection e with e1 e2 e3
    rw [e1]
    exact z3)
  have hplay0 : Hid (playF ((E.drop zn).drop 0) T = (0, S)) := Lib.hid hT.out.rest
  have hok0 := Lib.hid hT.out.ok
  have hN2b : N2 ≤ 21 := by omega
  clear HQ2 hb hk9 hs7 hev3 hN2 hz5 hT
  go_wp2_with fail
  go_loopg [149] N2 (fun g1 i wr => ∃ (k : Nat) (s : St), k ≤ N2 ∧ i = .int .i64 (k : Int) ∧ Hid (g1 = N2 - k) ∧ Hid s.ok ∧ Hid (Lone (fun x => x < w6.heap.size) wr g s) ∧ Hid (playF ((E.drop zn).drop k) s = (0, S)) ∧ Below w6.heap.size w6 wr)
  case atStart => exact ⟨0, T, Nat.zero_le _, rfl, Lib.hid rfl, hok0, hL0, hplay0, hb67⟩
  case round =>
    clear hok0 hL0 hplay0 hb67
    obtain ⟨k, s, hk, rfl, hr, hok, hL, hP, HB⟩ := hrel
    by_cases hlt : k < N2
    · have hkl : Hid (k < (E.drop zn).length) := Lib.hid (by rw [hdl.out]; exact hlt)
      obtain ⟨bk, off, rfl, e0, e1, e2, hb⟩ := (show RowAt encE 3 w6.heap.size wr A2 (E.drop zn) from hrowE.out.bel (Nat.le_refl _) HB).ent k hkl.out
      have hxz := Lib.hid (hY.out.nm _ (List.mem_of_mem_drop (List.getElem_mem hkl.out)))
      have hP2 := Lib.hid (show (E.drop zn).drop k = (E.drop zn)[k]'hkl.out :: (E.drop zn).drop (k + 1) from List.drop_eq_getElem_cons hkl.out)
      obtain ⟨x, hx⟩ : ∃ x, (E.drop zn)[k]'hkl.out = x := ⟨_, rfl⟩
      rw [hx] at e0 e1 e2 hxz hP2
      clear hx hb
      obtain ⟨xd, xk, xn⟩ := x
      dsimp only at e0 e1 e2 hxz
      obtain ⟨hd0, hgo⟩ := play_next (by have h := hP.out; rw [hP2.out] at h; exact h)
      have hok2 := Lib.hid (doS_ok s hok.out ⟨xd, xk, xn⟩ hxz.out)
      obtain ⟨D, hD⟩ : ∃ D, doS s ⟨xd, xk, xn⟩ = D := ⟨_, rfl⟩
      rw [hD] at hd0 hgo hok2
      replace hgo := Lib.hid hgo
      go_upto_region 25 with fail
      generalize hWW : World.alloc _ _ = W4
      have ky : At W4 wr.heap.size 39 #[.int .i64 xd, .int .i64 xk, .string xn] := by rw [← hWW]; exact At.new' rfl
      have hbW : Below wr.heap.size wr W4 := by rw [← hWW]; exact below_al (Below.refl _ _) _
      replace hL := Lib.hid (hL.out.up hbW)
      replace HB := below_then HB hbW
      obtain ⟨q0, q1', q2⟩ := ky.three
      clear hWW hbW e0 e1 e2
      have HD := Lib.hid (lone_do hL.out (fun x hx => Nat.lt_of_lt_of_le hx HB.size) hok.out xd xk xn hxz.out)
      rw [hD, hd0] at HD
      go_wp2_with fail
      refine HD.out.mono ?_
      rintro e w5 ⟨rfl, hL5, hK5⟩
      replace hL5 := Lib.hid hL5
      replace HB := below_le HB (hK5.below (fun x hx => hx))
      clear hL HD hP hK5 q0 q1' q2 ky
      go_wp2_with fail
      go_roundg (N2 - (k + 1))
      case measure => have := hr.out; omega
      case rel => exact ⟨k + 1, D.2, by omega, by go_num, Lib.hid rfl, hok2, hL5, hgo, HB⟩
    · have hE : Hid ((E.drop zn).drop k = []) := Lib.hid (List.drop_eq_nil_of_le (by have := hdl.out; omega))
      have hsT : s = S := by
        have h := hP.out
        rw [hE.out] at h
        exact congrArg Prod.snd h
      subst hsT
      have HBw := below_then HB6.out HB
      obtain ⟨re1, re2⟩ := rep_enc hY.out.new hval hY.out.play
      have HP := Lib.hid (HRp.out (encJ E) _ (by have := hJ.out; have := hJl2.out; omega) wr HBw (hjv.out.up HB))
      unfold RepPost at HP
      rw [re1, re2] at HP
      replace hjv := Lib.hid (hjv.out.up HB)
      have hkeep : Hid (s.kept = E) := Lib.hid (by have := playF_kept _ _ _ hY.out.play; rw [this]; rfl)
      have hEl : Hid (E.length ≤ 1000000) := Lib.hid (by have := hN.out; omega)
      clear re1 re2 hE hP hrowE hdl hev1
      go_wp2_with fail
      refine HP.out.mono ?_
      rintro e w7 ⟨-, hg7, hb⟩
      obtain ⟨g2, p2, rfl, hs2, -⟩ := hg7 (by first | rfl | trivial)
      obtain ⟨q, hq1, -⟩ := hL.out.up hb
      replace HBw := below_then HBw hb
      replace hjv := Lib.hid (hjv.out.up hb)
      have HE1 := Lib.hid (entries_any s hok.out g2 p2 w7 hs2)
      rw [hkeep.out] at HE1
      replace hs2 := Lib.hid hs2
      replace hq1 := Lib.hid hq1
      clear HP hg7 hb hL
      go_wp2_with fail
      refine HE1.out.mono ?_
      rintro e w8 ⟨⟨v1, rfl, hv1⟩, hb⟩
      have hv1' := Lib.hid (row_isE hv1.out)
      replace HBw := below_then HBw hb
      replace hjv := Lib.hid (hjv.out.up hb)
      replace hs2 := Lib.hid (hs2.out.bel hb)
      have HE2 := Lib.hid (entries_any s hok.out g q w8 (hq1.out.bel hb))
      rw [hkeep.out] at HE2
      clear HE1 hb hv1 hq1
      go_wp2_with fail
      refine HE2.out.mono ?_
      rintro e w9 ⟨⟨v2, rfl, hv2⟩, hb⟩
      replace HBw := below_then HBw hb
      replace hjv := Lib.hid (hjv.out.up hb)
      replace hs2 := Lib.hid (hs2.out.bel hb)
      have HQ3 := Lib.hid (eqvE_any E v1 v2 w9 hEl.out (hv1'.out.up hb) (row_isE hv2.out))
      clear HE2 hb hv2 hv1'
      go_wp2_with fail
      refine HQ3.out.mono ?_
      rintro e w10 ⟨rfl, hb⟩
      replace HBw := below_then HBw hb
      replace hjv := Lib.hid (hjv.out.up hb)
      replace hs2 := Lib.hid (hs2.out.bel hb)
      have HRd := Lib.hid (ready_any s hok.out g2 p2 w10 hs2.out)
      rw [hY.out.ready] at HRd
      clear HQ3 hb hs2
      go_wp2_with fail
      refine HRd.out.mono ?_
      rintro e w11 ⟨rfl, hb⟩
      replace HBw := below_then HBw hb
      replace hjv := Lib.hid (hjv.out.up hb)
      clear HRd hb hok HB
      by_cases b0 : by1 = 0
      · have g8 : ((by1 : Int) == 0) = true := by simp [b0]
        clear b0
        go_wp2_with fail
        go_ret
        exact ⟨rfl, HBw⟩
      have g8 : ((by1 : Int) == 0) = false := by simp [b0]
      by_cases b1 : k2 = J
      · have g9 : ((k2 : Int) == (J : Int)) = true := by simp [b1]
        replace b1 := Lib.hid b1
        clear b0
        go_wp2_with fail
        go_ret
        exact ⟨rfl, HBw⟩
      have g9 : ((k2 : Int) == (J : Int)) = false := by simp; omega
      have hkJ : k2 < (encJ E).length := by rw [← hJ.out]; omega
      have hk2J2 : k2 < J := by omega
      obtain ⟨C, hC, hCne⟩ := xor_byte ((encJ E)[k2]'hkJ) by1 hby2.out b0
      obtain ⟨i9, er9, -, gg2, gg3, -, -, -, -⟩ := good_chg hval hkJ hCne
      have hcl : ((encJ E).set k2 C).length = J := by rw [List.length_set]; exact hJ.out.symm
      obtain ⟨_, _, _, _, eD⟩ := rec_good (b := (encJ E).set k2 C) (by have := hJl2.out; omega) gg2
      have hbyte := Lib.hid (fun (u : World) (g cap n : Nat) (h : IsB (encJ E) (.slice (some ⟨g, 0, none⟩) n cap) u) => h.byteAt hkJ)
      have hset := Lib.hid (fun (u : World) (g cap n : Nat) (h : IsB (encJ E) (.slice (some ⟨g, 0, none⟩) n cap) u) => h.set hkJ C)
      obtain ⟨Y, hY9⟩ : ∃ Y, (((encJ E)[k2]'hkJ).toNat : Int) = Y := ⟨_, rfl⟩
      obtain ⟨CI, hCI⟩ : ∃ CI, (C.toNat : Int) = CI := ⟨_, rfl⟩
      rw [hY9] at hC hbyte
      rw [hCI] at hC hset
      have hC0 : IntKind.u8.wrap CI = CI := by rw [← hCI]; exact IntWalk.u8_in _ (by have := C.toNat_lt; omega)
      have hrp : repE l mB ((encJ E).set k2 C) = er9 := by rw [repE_dec hY.out.new (by rw [eD]; exact gg3), eD]
      obtain ⟨B, hB⟩ : ∃ B, encJ E = B := ⟨_, rfl⟩
      obtain ⟨B', hB'⟩ : ∃ B', (encJ E).set k2 C = B' := ⟨_, rfl⟩
      rw [hB'] at hset hrp hcl
      rw [hB] at hset hbyte hjv
      have hJB : Hid (J = B.length) := Lib.hid (by rw [← hB]; exact hJ.out)
      have HC := Lib.hid (cloneB_v B _ (by have := hJB.out; have := hJl2.out; omega) w11 hjv.out)
      rw [← hJB.out] at HC
      have zE : ((er9 : Int) != 0) = true := by simpa using gg3
      have hrp2 := Lib.hid (And.intro hrp gg3)
      replace hcl := Lib.hid hcl
      clear hkJ gg2 gg3 hY9 hCI hCne hB hB' b0 b1 eD hrp
      go_wp2_with fail
      refine HC.out.mono ?_
      rintro e w12 ⟨⟨cy, cc, rfl, hcy⟩, hb⟩
      obtain ⟨g9, rfl, hg⟩ := own_block hcy.out (by omega)
      have hcB : Hid (IsB B (.slice (some ⟨g9, 0, none⟩) J cc) w12) := Lib.hid (row_isB (by have := hcy.out; rw [hJB.out] at this ⊢; exact this))
      have hg2 : w.heap.size ≤ g9 := by have := HBw.size; omega
      replace HBw := below_then HBw hb
      have c0 := hbyte.out _ _ _ _ hcB.out
      have f0 := World.ownsRow.frozenAt hcy.out k2
      clear HC hb hcy
      go_wp2_with fail
      generalize hWW : World.setCell _ _ _ = W5
      have hcB2 : Hid (IsB B' (.slice (some ⟨g9, 0, none⟩) J cc) W5) := Lib.hid (by rw [← hWW]; exact hset.out _ _ _ _ hcB.out)
      have HB5 : Below w.heap.size w W5 := by rw [← hWW]; exact HBw.setCell (p := ⟨g9, k2, none⟩) hg2 _
      clear hWW hcB c0 f0 HBw
      have HP3 := Lib.hid (HRp.out B' _ (by have := hcl.out; have := hJl2.out; omega) W5 HB5 hcB2.out)
      unfold RepPost at HP3
      rw [hrp2.out.1] at HP3
      refine HP3.out.mono ?_
      rintro e w6 ⟨hbad, -, hb⟩
      obtain rfl := hbad hrp2.out.2
      have HB9 := below_then HB5 hb
      clear HP3 hb hbad HB5
      go_wp2_with fail
      go_ret
      exact ⟨by first | rfl | simp, HB9⟩
end Go.Proofs.YtcokobdffbhpeaaGreatDoor
set_option linter.unusedVariables false
set_option maxRecDepth 10000
namespace Go.Proofs.YtcokobdffbhpeaaGreatDoor
open Go.ChangeShapes Go.WideShapes Go.ChangeAt Go.RowKit Go.Deep Go.ChangeMaps
theorem slice_form {P : Program} {w : World} {r : Reach} {base : Nat} {t e : TypeId} {ao : Option Addr} {len cap : Nat} (ht : P.underlying t = some (.slice e)) (h : Value.okWide P w r base t (.slice ao len cap)) : (ao = none ∧ len = 0 ∧ cap = 0) ∨ ∃ b off, ao = some ⟨b, off, none⟩ := by
  simp only [Value.okWide, ht, Cell.okWide] at h
  rcases ao with _ | ⟨b, off, sp⟩
  · refine .inl ⟨rfl, ?_⟩
    unfold Cell.ok at h
    rw [ht] at h
    rcases len with _ | len
    · rcases cap with _ | cap
      · exact ⟨rfl, rfl⟩
      · exact h.elim
    · exact h.elim
  · unfold Cell.ok at h
    rw [ht] at h
    obtain ⟨-, -, -, h, -⟩ := h
    refine .inr ⟨b, off, ?_⟩
    have h : sp = none := h
    rw [h]
instance : Inhabited Ent := ⟨⟨0, 0, ⟨#[]⟩⟩⟩
section
variable {H : Type} {enc : TypeId × Value → H}
theorem open_row {α : Type} [Inhabited α] (encA : α → List Value) (sz : Nat) {W : World} {r : Reach} {b0 : Nat} {t e : TypeId} {v : Value} {d : DataW H} {ps : List MemPlace} (ht : Tryz.prog.underlying t = some (.slice e)) (ce : Tryz.prog.cellsOf e = sz) (h0 : 0 < sz) (henc : ∀ x, (encA x).length = sz)
    (hel : ∀ n cs y, DataW.trod enc Tryz.prog W 0 (fun _ => true) true n e cs = some y → ∃ x : α, cs = encA x)
    (hval : Value.okWide Tryz.prog W r b0 t v) (hd : DataW.Trod enc Tryz.prog W 0 (fun _ => true) true t v d ps) :
    ∃ (l : List α) (ao : Option Addr) (cap : Nat), v = .slice ao l.length cap ∧ l.length ≤ cap ∧ cap ≤ 9223372036854775807 ∧ RowAt encA sz W.heap.size W ao l ∧ ((ao = none ∧ l.length = 0 ∧ cap = 0) ∨ ∃ b off, ao = some ⟨b, off, none⟩) := by
  obtain ⟨a0, len0, cap0, rfl⟩ := okWide_slice ht hval
  have hform := slice_form ht hval
  obtain ⟨fuel, hf⟩ := hd
  rcases open_slice ht hf with ⟨hc, _⟩ | ⟨a, len, cap, m, n, D, Pl, hc, _, hl, hm, hmm, _, hx⟩
  · simp only [Value.cells, List.cons.injEq, and_true, Value.slice.injEq] at hc
    obtain ⟨rfl, rfl, rfl⟩ := hc
    exact ⟨[], none, 0, rfl, Nat.le_refl _, by omega, RowAt.nil _ _, .inl ⟨rfl, rfl, rfl⟩⟩
  · simp only [Value.cells, List.cons.injEq, and_true, Value.slice.injEq] at hc
    obtain ⟨rfl, rfl, rfl⟩ := hc
    simp only [if_true] at hmm
    subst hmm
    rcases hform with ⟨h1, _⟩ | ⟨b, off, h1⟩
    · cases h1
    · simp only [Option.some.injEq] at h1
      subst h1
      have ad : ∀ i, (⟨b, off, none⟩ : Addr).add i = ⟨b, off + i, none⟩ := fun i => by cases i <;> simp [Addr.add]
      have each : ∀ i, i < len0 → ∃ x : α, ∀ j u, (encA x)[j]? = some u → W.cell? ⟨b, off + i * sz + j, none⟩ = some u := by
        intro i hi
        obtain ⟨cs', h1, h2⟩ := hx i (by omega)
        rw [ce] at h1
        obtain ⟨_, hlen, hcell⟩ := World.cells?_some h1
        obtain ⟨x, rfl⟩ := hel _ _ _ h2
        refine ⟨x, fun j u hu => ?_⟩
        have hj : j < sz := by rw [← henc x]; exact (List.getElem?_eq_some_iff.1 hu).1
        have := hcell j (by omega)
        rw [add_add, ad, ← Nat.add_assoc] at this
        rw [this, ← hu]
      obtain ⟨q, hq⟩ := choose_lt each
      refine ⟨(List.range len0).map q, some ⟨b, off, none⟩, m, by simp, by simpa using hl, by have : m ≤ 2 ^ 63 - 1 := hm; omega, ?_, .inr ⟨b, off, rfl⟩⟩
      intro k hk
      have hk' : k < len0 := by simpa using hk
      have hc := hq k hk'
      have hne : 0 < (encA (q k)).length := by rw [henc]; exact h0
      have hb : b < W.heap.size := block_lt_of_cell (hc 0 _ (List.getElem?_eq_getElem hne))
      refine ⟨b, off, rfl, hb, fun j u hu => ?_⟩
      have e : ((List.range len0).map q)[k] = q k := by simp
      rw [e] at hu
      exact hc j u hu
theorem c_int : Tryz.prog.cellsOf 3 = 1 := by kernel_rfl
theorem c_str : Tryz.prog.cellsOf 9 = 1 := by kernel_rfl
end
end Go.Proofs.YtcokobdffbhpeaaGreatDoor
