/- The walk of TopBundled. slices among a law's arguments, opened (shared). -/
import Derived.Test.YtjlkbmaigcgnbaaDoorBJ36
import Derived.Test.YtjlkbmaigcgnbaaDoorBJ01
import Derived.Deep.Slices
import Derived.WideShapes
import Derived.ChangeArms
import Derived.ProofKit
set_option linter.unusedVariables false
namespace Go.Proofs.YtjlkbmaigcgnbaaDoor
open Go.ChangeShapes Go.WideShapes Go.ChangeAt Go.RowKit Go.Maps Go.ChangeMaps Go.WideMaps
set_option maxRecDepth 100000 in
set_option maxHeartbeats 2000000 in
theorem topBundled_walk (l : List Br) (ds : List Value) (a : Option Addr) (cc : Nat) (most limit : Int) (w : World) (h : BarsW w l ds a cc) (ht : Tab w) :
    Calls Tryd.prog 3 #[.slice a l.length cc, .int .i64 most, .int .i64 limit] w fun e w' => e = .returned (.bool true) ∧ Below w.heap.size w w' := by
  obtain ⟨k0, hk0, hkz, hks, hkb⟩ := info_parts infoBool
  have ht0 := Lib.hid ht
  have h0 := Lib.hid h
  have HL := Lib.hid (fun (W : World) (hW : Below w.heap.size w W) => yardLarge_any l ds a cc W (h.up hW))
  obtain ⟨sm, hsm⟩ : ∃ sm, smlB l 6 = sm := ⟨_, rfl⟩
  rw [hsm] at HL
  have hmk : Hid (sm = true → l.length ≤ 6 ∧ ∀ b ∈ l, b.mark.size ≤ 60) := Lib.hid fun q => smlB_yes (hsm.trans q)
  obtain ⟨nl, hnl⟩ : ∃ nl, l.length = nl := ⟨_, rfl⟩
  rw [hnl] at HL ⊢
  replace hnl := Lib.hid hnl
  clear h ht hsm
  go_enter Tryd.func3, Tryd.ntmps3
  go_wp2_with fail
  refine (yawake_any w ht0.out).mono ?_
  rintro e w1 ⟨rfl, HB⟩
  go_wp2_with fail
  refine (HL.out w1 HB).mono ?_
  rintro e w2 ⟨rfl, rfl⟩
  clear HL
  rcases sm with _ | _
  · clear hmk
    go_wp2_with fail
    go_ret
    exact ⟨rfl, HB⟩
  obtain ⟨hl6, hmk⟩ := hmk.out rfl
  have hV := Lib.hid ((h0.out.up HB).toV hmk)
  have HM := Lib.hid (make_any l ds a cc most w1 hV.out (ht0.out.bel HB))
  rw [hnl.out] at HM
  obtain ⟨E, hE⟩ : ∃ E, (makeE most l).2 = E := ⟨_, rfl⟩
  obtain ⟨U, hU⟩ : ∃ U, (makeE most l).1 = U := ⟨_, rfl⟩
  have hErr : Hid (E ≠ 0 → U = []) := Lib.hid fun q => by rw [← hU]; exact makeE_err (by rw [hE]; exact q)
  have hBK : Hid (E = 0 → BunK l most U) := Lib.hid fun q => bunK hU (by rw [hE]; exact q) hmk
  rw [hE, hU] at HM
  have hnl6 : nl ≤ 6 := by rw [← hnl.out]; exact hl6
  have hmk' := Lib.hid hmk
  clear hE hU hmk hl6
  go_wp2_with fail
  refine HM.out.mono ?_
  rintro e w2 ⟨⟨v, rfl, ua, uc, rfl, u1, u2, u3⟩, hb⟩
  replace HB := below_then HB hb
  have hV2 := Lib.hid (hV.out.up hb)
  clear HM hb hV
  by_cases hE0 : E = 0
  rotate_left
  · have hUn := hErr.out hE0
    subst hUn
    have g1 : (E != 0) = true := by simp [hE0]
    have g2 : (E == 0) = false := by simp [hE0]
    clear hErr hBK hE0
    go_wp2_with fail
    go_ret
    exact ⟨rfl, HB⟩
  have hK := hBK.out hE0
  subst hE0
  clear hErr hBK
  by_cases hN : 30 < U.length
  · have g1 : decide ((30 : Int) < (U.length : Int)) = true := decide_eq_true (by omega)
    clear hK
    go_wp2_with fail
    go_ret
    exact ⟨by first | rfl | trivial, HB⟩
  have hsz := Lib.hid hK.siz
  have hr2 := Lib.hid u3
  have HC := Lib.hid (bcheck_any l ds a cc U ua uc u1 u2 hsz.out w2 hV2.out hr2.out hK.sch hK.val hmk'.out hK.cnt hK.mem)
  have HMs := Lib.hid (fun (W : World) (hW : Below w2.heap.size w2 W) => bunMass_any U ua uc u1 u2 hsz W (Lib.hid ((hr2.out.bel (Nat.le_refl _) hW).mono hW.size)) hK.val)
  have HT := Lib.hid (fun (W : World) (hW : Below w2.heap.size w2 W) => total_any l ds a cc W (hV2.out.up hW) hK.sch)
  have HG := Lib.hid (fun (W : World) (hW : Below w2.heap.size w2 W) => greedyX_any U ua uc limit u1 u2 (by omega) hsz W (Lib.hid ((hr2.out.bel (Nat.le_refl _) hW).mono hW.size)))
  have HBd := Lib.hid (fun (W : World) (hW : Below w2.heap.size w2 W) => bound_any U ua uc limit u1 u2 hsz W (Lib.hid ((hr2.out.bel (Nat.le_refl _) hW).mono hW.size)) (by omega))
  have HCk := Lib.hid (fun (W : World) (hW : Below w2.heap.size w2 W) (hk : GivK U limit) (L : List (List Nat)) (ao : Option Addr) (co : Nat) (hL : LoadsV W L ao co) (hp : Pk (massN U) limit U.length L) => lcheck_any U ua uc limit u1 u2 hsz W (Lib.hid ((hr2.out.bel (Nat.le_refl _) hW).mono hW.size)) hk L ao co hL hp)
  have HLe := Lib.hid (fun (W : World) (hW : Below w2.heap.size w2 W) (h8 : U.length ≤ 12) (hg : givE U limit = 0) => least_any U ua uc limit u1 u2 h8 hsz W (Lib.hid ((hr2.out.bel (Nat.le_refl _) hW).mono hW.size)) hg)
  obtain ⟨T, hT⟩ : ∃ T, (l.map lineM).sum = T := ⟨_, rfl⟩
  have hms := hK.mass
  rw [hT] at hms HT
  rw [hms] at HMs
  have hsum : Hid (sumF2 (massN U) U.length = T) := Lib.hid (by rw [sumF2_map, hms])
  obtain ⟨ge, hge⟩ : ∃ ge, givE U limit = ge := ⟨_, rfl⟩
  have hgk : Hid (ge = 0 → GivK U limit) := Lib.hid fun q => givK (hge.trans q)
  rw [hge] at HG HBd HLe
  have hge0 := Lib.hid hge
  obtain ⟨Bd, hBd⟩ : ∃ Bd, boundN (massN U) limit U.length = Bd := ⟨_, rfl⟩
  rw [hBd] at HBd
  have hGrd : Hid (∀ e w', GrdE U limit e w' → ∃ (L : List (List Nat)) (ao : Option Addr) (co : Nat), LoadK (massN U) limit U.length L Bd ∧ e = .returned (.tuple #[.slice ao L.length co, .int .i64 0]) ∧ LoadsV w' L ao co) := Lib.hid fun e w' q => by rw [← hBd]; exact q
  have hcell : Hid (∀ x, x < U.length → ∀ W, Below w2.heap.size w2 W → ∃ b off, ua = some ⟨b, off, none⟩ ∧ W.cell? ⟨b, off + x * 4 + 3, none⟩ = some (.int .i64 (massN U x))) := Lib.hid fun x hx W hW => by
    obtain ⟨b, off, e, -, -, -, h4, -⟩ := (show RowAt encB 4 w2.heap.size W ua U from hr2.out.bel (Nat.le_refl _) hW).bun x hx
    refine ⟨b, off, e, ?_⟩
    rw [h4]
    unfold massN
    rw [List.getElem?_eq_getElem hx]
  obtain ⟨n, hn⟩ : ∃ n, U.length = n := ⟨_, rfl⟩
  rw [hnl.out] at HC HT
  rw [hn] at HC HMs HG HBd HCk HLe hsum hN hGrd hcell u1 ⊢
  obtain ⟨f, hf⟩ : ∃ f, massN U = f := ⟨_, rfl⟩
  rw [hf] at hsum hGrd HCk hcell
  replace hn := Lib.hid hn
  replace hf := Lib.hid hf
  have hn30 : n ≤ 30 := by omega
  clear hK u3 hT hms hge hBd
  go_wp2_with fail
  refine HC.out.mono ?_
  rintro e w3 ⟨rfl, hb⟩
  have HB3 := hb
  clear HC hb
  go_wp2_with fail
  refine (HMs.out _ HB3).mono ?_
  rintro e w4 ⟨rfl, hb⟩
  replace HB3 := below_then HB3 hb
  clear HMs hb
  go_wp2_with fail
  refine (HT.out _ HB3).mono ?_
  rintro e w5 ⟨rfl, hb⟩
  replace HB3 := below_then HB3 hb
  clear HT hb
  have g3 : (T != T) = false := by simp
  go_wp2_with fail
  refine (HG.out _ HB3).mono ?_
  rintro e w6 ⟨hbad, hgood, hb⟩
  replace HB3 := below_then HB3 hb
  clear HG hb
  by_cases hg0 : ge = 0
  rotate_left
  · obtain rfl := hbad hg0
    rw [if_neg hg0] at HBd
    have g4 : (ge != 0) = true := by simp [hg0]
    have g5 : (ge == ge) = true := by simp
    clear hbad hgood hg0 hgk HCk HLe
    go_wp2_with fail
    refine (HBd.out _ HB3).mono ?_
    rintro e w7 ⟨rfl, hb⟩
    replace HB := below_then HB (below_then HB3 hb)
    clear HBd hb
    go_wp2_with fail
    go_ret
    exact ⟨rfl, HB⟩
  have hk := hgk.out hg0
  obtain ⟨L, ao, co, hLK, rfl, hLV⟩ := hGrd.out _ _ (hgood hg0)
  rw [if_pos hg0] at HBd
  subst hg0
  have hge := hge0.out
  have HCk2 := Lib.hid (fun (W : World) (hW : Below w6.heap.size w6 W) => HCk.out W (below_then HB3 hW) hk L ao co (hLV.up hW) hLK.pk)
  have hLV0 := Lib.hid hLV
  have hbm := hLK.bm
  have hbd := hLK.bd
  have hbd0 := hLK.bd0
  have hlen := hLK.len
  have hsT := hsum.out
  have hpos := hk.pos
  have hlst := Lib.hid hLK.least
  have hmass := Lib.hid hk.mass
  rw [hf.out] at hmass
  have hpk := Lib.hid hLK.pk
  obtain ⟨m, hm⟩ : ∃ m, L.length = m := ⟨_, rfl⟩
  rw [hm] at HCk2 hbd hlen ⊢
  have hcap := hLV.cap
  rw [hm] at hcap
  replace hm := Lib.hid hm
  rw [hsT] at hbm
  have hbl : Bd * limit ≤ 30 * 1099511627776 := Int.mul_le_mul (by omega) (by omega) (by omega) (by omega)
  have hbl0 : 0 ≤ Bd * limit := Int.mul_nonneg hbd0 (by omega)
  obtain ⟨P, hP⟩ : ∃ P, Bd * limit = P := ⟨_, rfl⟩
  rw [hP] at hbm hbl hbl0
  have z1 : IntKind.i64.wrap (Bd * limit) = P := by rw [hP, IntWalk.i64_in _ (by omega)]
  have g6 : decide ((m : Int) < Bd) = false := decide_eq_false (by omega)
  have g7 : decide (P < T) = false := decide_eq_false (by omega)
  clear hbad hgood hgk hGrd HCk hLK hLV hk hP hbl hbl0 hsT
  go_wp2_with fail
  refine (HBd.out _ HB3).mono ?_
  rintro e w7 ⟨rfl, hb⟩
  have HB7 := below_then HB3 hb
  have HC7 := Lib.hid (HCk2.out w7 hb)
  have hLV7 := Lib.hid (hLV0.out.up hb)
  clear HBd hb HCk2 hLV0 HB3
  go_wp2_with fail
  refine HC7.out.mono ?_
  rintro e w8 ⟨rfl, hb⟩
  replace HB7 := below_then HB7 hb
  have hLV8 := Lib.hid (hLV7.out.up hb)
  clear HC7 hb hLV7
  obtain ⟨W9, hmkr, hown, hgr⟩ := run_makeSlice_full (P := Tryd.prog) w8 w8.heap.size 41 4 k0 (.bool false) 1 Tryd.underlying41 hk0 hkz hks .i64 .i64 n (by omega) (by rw [hkb]; omega) (by unfold maxLen; omega) (Nat.le_refl _)
  rw [made_bools] at hown
  have HB9 : Below w8.heap.size w8 W9 := ⟨hgr.os, hgr.tape, hgr.output, hgr.size, fun k hk => hgr.block k hk (fun e => by cases e)⟩
  have hown0 := Lib.hid hown
  obtain ⟨g, hg⟩ : ∃ g, w8.heap.size = g := ⟨_, rfl⟩
  rw [hg] at hown0 hmkr
  have hgg := Lib.hid hg
  have hmk2 : (Instr.makeSlice 41 (.int .i64 (n : Int)) (.int .i64 (n : Int))).run Tryd.prog w8 = .ok (.slice (some ⟨g, 0, none⟩) n n) W9 := hmkr
  have HBw8 := Lib.hid HB7
  have HBw := Lib.hid HB
  clear hown hgr hg hmkr HB HB7
  go_wp2_with fail
  go_loopg [147] m (fun g1 i wr => ∃ j : Nat, j ≤ m ∧ i = .int .i64 (j : Int) ∧ Hid (g1 = m - j) ∧ Below w8.heap.size w8 wr ∧ Hid (wr.ownsRow g 4 1 (.slice (some ⟨g, 0, none⟩) n n) n (boolV n (L.take j).flatten)))
  case atStart => exact ⟨0, Nat.zero_le _, rfl, Lib.hid rfl, HB9, hown0⟩
  case round =>
    clear HB9 hown0 hmk2 g6 g7 z1 g3
    obtain ⟨j, hj, rfl, hgr, HBr, ho⟩ := hrel
    by_cases hlt1 : j < m
    · have hjl : Hid (j < L.length) := Lib.hid (by rw [hm.out]; exact hlt1)
      obtain ⟨go, aj, cj, rfl, c0, q1, q2, q3⟩ := hLV8.out.cell j hjl.out
      replace c0 := cell_up HBr c0
      have hjs := hpk.out.sum _ (List.getElem_mem hjl.out)
      have hjL := Lib.hid (fun i (hi : i < (L[j]'hjl.out).length) => show (L[j]'hjl.out)[i] < n from by
        have := hpk.out.perm.mem_iff.1 (List.mem_flatten.2 ⟨L[j]'hjl.out, List.getElem_mem hjl.out, List.getElem_mem hi⟩)
        simpa using this)
      have hnd : L.flatten.Nodup := hpk.out.perm.nodup_iff.2 List.nodup_range
      have hfr := Lib.hid (fun i (hi : i < (L[j]'hjl.out).length) => fresh_at hnd hjl.out hi)
      have hnx : Hid ((L.take (j + 1)).flatten = (L.take j).flatten ++ L[j]'hjl.out) := Lib.hid (by rw [List.take_succ_eq_append_getElem hjl.out, List.flatten_append]; simp)
      have hkn : (L[j]'hjl.out).length ≤ n := by
        have h1 := (List.sublist_flatten_of_mem (List.getElem_mem hjl.out)).length_le
        rw [hpk.out.perm.length_eq, List.length_range] at h1
        exact h1
      obtain ⟨ld, hld⟩ : ∃ ld, L[j]'hjl.out = ld := ⟨_, rfl⟩
      rw [hld] at c0 q1 q3 hjs hjL hfr hnx hkn
      obtain ⟨A, hA⟩ : ∃ A, (L.take j).flatten = A := ⟨_, rfl⟩
      rw [hA] at ho hfr hnx
      have hps := Lib.hid (fun i => part_sum f ld i (fun x _ => (hmass.out x).1))
      have hpn := Lib.hid (fun i (hi : i < ld.length) => part_next f ld i hi)
      clear hld hA hnd
      obtain ⟨k, hk⟩ : ∃ k, ld.length = k := ⟨_, rfl⟩
      rw [hk] at c0 q1 hkn
      have hq3 := Lib.hid q3
      replace hk := Lib.hid hk
      replace hjs := Lib.hid hjs
      clear q3
      go_wp2_with fail
      go_loopg [153, 24] k (fun g1 i s wq => ∃ (i0 : Nat) (s0 : Int), i0 ≤ k ∧ i = .int .i64 (i0 : Int) ∧ s = .int .i64 s0 ∧ Hid (g1 = k - i0 ∧ s0 = ((ld.take i0).map f).sum) ∧ Below w8.heap.size w8 wq ∧ Hid (wq.ownsRow g 4 1 (.slice (some ⟨g, 0, none⟩) n n) n (boolV n (A ++ ld.take i0))))
      case atStart => exact ⟨0, 0, Nat.zero_le _, rfl, rfl, Lib.hid ⟨rfl, by simp⟩, HBr, by rw [List.take_zero, List.append_nil]; exact ho⟩
      case round =>
        clear HBr ho c0
        obtain ⟨i, s, hi, rfl, rfl, hri, HBr, ho⟩ := hrel
        by_cases hlt2 : i < k
        · have hil : Hid (i < ld.length) := Lib.hid (by rw [hk.out]; exact hlt2)
          obtain ⟨b, off, rfl, c0, -⟩ := (show RowAt (fun x => [Value.int .i64 x]) 1 w8.heap.size wr aj (castZ ld) from hq3.out.bel (Nat.le_refl _) HBr).one i (by unfold castZ; rw [List.length_map]; exact hil.out)
          have hcz : (castZ ld)[i]'(by unfold castZ; rw [List.length_map]; exact hil.out) = ((ld[i]'hil.out : Nat) : Int) := by unfold castZ; rw [List.getElem_map]
          rw [hcz] at c0
          have hxn := hjL.out i hil.out
          have hfx := hfr.out i hil.out
          have hsx := hpn.out i hil.out
          have hs0 := hps.out i
          have hs1 := hps.out (i + 1)
          have htk : Hid (A ++ ld.take (i + 1) = (A ++ ld.take i) ++ [ld[i]'hil.out]) := Lib.hid (by rw [List.take_succ_eq_append_getElem hil.out, List.append_assoc])
          obtain ⟨x, hx⟩ : ∃ x, ld[i]'hil.out = x := ⟨_, rfl⟩
          rw [hx] at c0 hxn hfx hsx htk
          clear hx hcz
          obtain ⟨ub, uo, rfl, b3⟩ := hcell.out x hxn _ (below_then HBw8.out HBr)
          have hmx := hmass.out x
          have hjb := hjs.out
          obtain ⟨s2, hs2⟩ : ∃ s2, s + f x = s2 := ⟨_, rfl⟩
          have hsr := hri.out.2
          have hs2' : Hid (s2 = ((ld.take (i + 1)).map f).sum) := Lib.hid (by rw [hsx, ← hsr, hs2])
          have z1 : IntKind.i64.wrap (s + f x) = s2 := by rw [hs2, IntWalk.i64_in _ (by omega)]
          obtain ⟨hfz, hcb⟩ := own_at ho.out
          have d0 : wr.cell? ⟨g, x, none⟩ = some (.bool false) := by
            rw [hcb x _ (boolV_get _ hxn), decide_eq_false hfx]
          have f0 := hfz x
          have hg1 : w8.heap.size ≤ g := by rw [hgg.out]; exact Nat.le_refl _
          clear hfx hsx hs0 hs1 hs2 hsr hjb hmx hfz hcb
          go_upto_region 31 with fail
          generalize hWW : World.setCell wr _ _ = W5
          have ho5 : Hid (W5.ownsRow g 4 1 (.slice (some ⟨g, 0, none⟩) n n) n (boolV n (A ++ ld.take (i + 1)))) := Lib.hid (by
            rw [← hWW, htk.out, ← boolV_set _ hxn]
            exact own_put ho.out (g := g) rfl hxn _)
          have HB5 : Below w8.heap.size w8 W5 := by rw [← hWW]; exact HBr.setCell (p := ⟨g, x, none⟩) hg1 _
          clear hWW ho d0 f0 b3 c0
          obtain ⟨ub2, uo2, e, b3⟩ := hcell.out x hxn _ (below_then HBw8.out HB5)
          injection e with e
          injection e with e1 e2
          subst e1 e2
          go_wp2_with fail
          go_roundg (k - (i + 1))
          case measure => have := hri.out.1; omega
          case rel => exact ⟨i + 1, s2, by omega, by go_num, rfl, Lib.hid ⟨rfl, hs2'.out⟩, HB5, ho5⟩
        · have hik : i = k := by omega
          have hsS : s = (ld.map f).sum := by
            have h1 := hri.out.2
            rwa [List.take_of_length_le (by rw [hk.out]; omega)] at h1
          have hjs' := hjs.out
          have ho2 : Hid (wr.ownsRow g 4 1 (.slice (some ⟨g, 0, none⟩) n n) n (boolV n (L.take (j + 1)).flatten)) := Lib.hid (by
            rw [hnx.out]
            have h1 := ho.out
            rwa [List.take_of_length_le (by rw [hk.out]; omega)] at h1)
          have g6 : decide (limit < s) = false := decide_eq_false (by omega)
          clear ho hjs' hsS
          go_wp2_with fail
          go_roundg (m - (j + 1))
          case measure => have := hgr.out; omega
          case rel => exact ⟨j + 1, by omega, by go_num, Lib.hid rfl, HBr, ho2⟩
    · have HCb := Lib.hid (contBool_any g n wr (by omega) (Lib.hid fun x hx => by
        have h1 := ho.out
        rw [List.take_of_length_le (by have := hm.out; omega)] at h1
        have h2 := (own_at h1).2 x _ (boolV_get _ hx)
        rw [h2, decide_eq_true (hpk.out.perm.mem_iff.2 (by simpa using hx))]))
      have HB2 := below_then HBw8.out HBr
      clear ho HBr
      go_wp2_with fail
      refine HCb.out.mono ?_
      rintro e w9 ⟨rfl, rfl⟩
      clear HCb
      by_cases h8 : 8 < n
      · have g8 : decide ((8 : Int) < (n : Int)) = true := decide_eq_true (by omega)
        have HE := Lib.hid (below_then HBw.out HB2)
        go_wp2_with fail
        go_ret
        exact ⟨rfl, HE.out⟩
      · have g8 : decide ((8 : Int) < (n : Int)) = false := decide_eq_false (by omega)
        have HLk := Lib.hid (HLe.out _ HB2 (by omega) trivial)
        clear HLe
        go_wp2_with fail
        refine HLk.out.mono ?_
        rintro e w10 ⟨⟨z, v, rfl, hz0, hz1⟩, hb⟩
        have HE := Lib.hid (below_then HBw.out (below_then HB2 hb))
        have hzz : Bd ≤ (z : Int) ∧ z ≤ m := by
          rw [hn.out] at hz0 hz1
          rcases Nat.eq_zero_or_pos n with q | q
          · have := hz0 q
            omega
          · obtain ⟨b, hb1, rfl⟩ := hz1 q
            rw [hf.out] at hb1
            have := hlst.out (by omega) b hb1
            rw [hm.out] at this
            exact this
        have g9 : decide (Bd ≤ (z : Int)) = true := decide_eq_true hzz.1
        have g10 : decide ((z : Int) ≤ (m : Int)) = true := decide_eq_true (by omega)
        clear hz0 hz1 hb HLk
        go_wp2_with fail
        go_ret
        exact ⟨by first | rfl | trivial, HE.out⟩
end Go.Proofs.YtjlkbmaigcgnbaaDoor
set_option linter.unusedVariables false
set_option maxRecDepth 10000
namespace Go.Proofs.YtjlkbmaigcgnbaaDoor
open Go.ChangeShapes Go.WideShapes Go.ChangeAt Go.RowKit Go.Deep Go.ChangeMaps
theorem slice_form {P : Program} {w : World} {r : Reach} {base : Nat} {t e : TypeId} {ao : Option Addr} {len cap : Nat} (ht : P.underlying t = some (.slice e)) (h : Value.okWide P w r base t (.slice ao len cap)) : (ao = none ∧ len = 0 ∧ cap = 0) ∨ ∃ b off, ao = some ⟨b, off, none⟩ := by
  simp only [Value.okWide, ht, Cell.okWide] at h
  rcases ao with _ | ⟨b, off, sp⟩
  · refine .inl ⟨rfl, ?_⟩
    unfold Cell.ok at h
    rw [ht] at h
    rcases len with _ | len
    · rcases cap with _ | cap
      · exact ⟨rfl, rfl⟩
      · exact h.elim
    · exact h.elim
  · unfold Cell.ok at h
    rw [ht] at h
    obtain ⟨-, -, -, h, -⟩ := h
    refine .inr ⟨b, off, ?_⟩
    have h : sp = none := h
    rw [h]
instance : Inhabited Ent := ⟨⟨0, 0, ⟨#[]⟩⟩⟩
section
variable {H : Type} {enc : TypeId × Value → H}
theorem open_row {α : Type} [Inhabited α] (encA : α → List Value) (sz : Nat) {W : World} {r : Reach} {b0 : Nat} {t e : TypeId} {v : Value} {d : DataW H} {ps : List MemPlace} (ht : Tryd.prog.underlying t = some (.slice e)) (ce : Tryd.prog.cellsOf e = sz) (h0 : 0 < sz) (henc : ∀ x, (encA x).length = sz)
    (hel : ∀ n cs y, DataW.trod enc Tryd.prog W 0 (fun _ => true) true n e cs = some y → ∃ x : α, cs = encA x)
    (hval : Value.okWide Tryd.prog W r b0 t v) (hd : DataW.Trod enc Tryd.prog W 0 (fun _ => true) true t v d ps) :
    ∃ (l : List α) (ao : Option Addr) (cap : Nat), v = .slice ao l.length cap ∧ l.length ≤ cap ∧ cap ≤ 9223372036854775807 ∧ RowAt encA sz W.heap.size W ao l ∧ ((ao = none ∧ l.length = 0 ∧ cap = 0) ∨ ∃ b off, ao = some ⟨b, off, none⟩) := by
  obtain ⟨a0, len0, cap0, rfl⟩ := okWide_slice ht hval
  have hform := slice_form ht hval
  obtain ⟨fuel, hf⟩ := hd
  rcases open_slice ht hf with ⟨hc, _⟩ | ⟨a, len, cap, m, n, D, Pl, hc, _, hl, hm, hmm, _, hx⟩
  · simp only [Value.cells, List.cons.injEq, and_true, Value.slice.injEq] at hc
    obtain ⟨rfl, rfl, rfl⟩ := hc
    exact ⟨[], none, 0, rfl, Nat.le_refl _, by omega, RowAt.nil _ _, .inl ⟨rfl, rfl, rfl⟩⟩
  · simp only [Value.cells, List.cons.injEq, and_true, Value.slice.injEq] at hc
    obtain ⟨rfl, rfl, rfl⟩ := hc
    simp only [if_true] at hmm
    subst hmm
    rcases hform with ⟨h1, _⟩ | ⟨b, off, h1⟩
    · cases h1
    · simp only [Option.some.injEq] at h1
      subst h1
      have ad : ∀ i, (⟨b, off, none⟩ : Addr).add i = ⟨b, off + i, none⟩ := fun i => by cases i <;> simp [Addr.add]
      have each : ∀ i, i < len0 → ∃ x : α, ∀ j u, (encA x)[j]? = some u → W.cell? ⟨b, off + i * sz + j, none⟩ = some u := by
        intro i hi
        obtain ⟨cs', h1, h2⟩ := hx i (by omega)
        rw [ce] at h1
        obtain ⟨_, hlen, hcell⟩ := World.cells?_some h1
        obtain ⟨x, rfl⟩ := hel _ _ _ h2
        refine ⟨x, fun j u hu => ?_⟩
        have hj : j < sz := by rw [← henc x]; exact (List.getElem?_eq_some_iff.1 hu).1
        have := hcell j (by omega)
        rw [add_add, ad, ← Nat.add_assoc] at this
        rw [this, ← hu]
      obtain ⟨q, hq⟩ := choose_lt each
      refine ⟨(List.range len0).map q, some ⟨b, off, none⟩, m, by simp, by simpa using hl, by have : m ≤ 2 ^ 63 - 1 := hm; omega, ?_, .inr ⟨b, off, rfl⟩⟩
      intro k hk
      have hk' : k < len0 := by simpa using hk
      have hc := hq k hk'
      have hne : 0 < (encA (q k)).length := by rw [henc]; exact h0
      have hb : b < W.heap.size := block_lt_of_cell (hc 0 _ (List.getElem?_eq_getElem hne))
      refine ⟨b, off, rfl, hb, fun j u hu => ?_⟩
      have e : ((List.range len0).map q)[k] = q k := by simp
      rw [e] at hu
      exact hc j u hu
theorem c_int : Tryd.prog.cellsOf 3 = 1 := by kernel_rfl
end
end Go.Proofs.YtjlkbmaigcgnbaaDoor
