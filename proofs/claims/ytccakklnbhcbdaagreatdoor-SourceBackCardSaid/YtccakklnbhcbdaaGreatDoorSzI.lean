/- source: SourceBack, the walk. -/
import Derived.Test.YtccakklnbhcbdaaGreatDoorSzH
import Derived.Test.YtccakklnbhcbdaaGreatDoorSyP
import Derived.Test.YtccakklnbhcbdaaGreatDoorQk
import Derived.Test.YtccakklnbhcbdaaGreatDoorMBk
set_option linter.unusedVariables false
set_option linter.unusedSimpArgs false
namespace Go.Proofs.YtccakklnbhcbdaaGreatDoor
open Go.ChangeShapes Go.WideShapes Go.ChangeAt Go.RowKit

theorem last_nl {P : ByteArray} {T0 b : List UInt8} (h : by_ P = T0 ++ 10 :: b) (hb : noB 10 b) : Lib.lastIndexByte P 10 = (T0.length : Int) := by
  have hs : P.size = T0.length + 1 + b.length := by rw [← by_len, h, List.length_append, List.length_cons]; omega
  have hg : ∀ (j : Nat) (hj : j < P.size), P.data[j]! = (by_ P)[j]'(by rw [by_len]; exact hj) := fun j hj => by
    rw [getElem!_pos P.data j hj]
    rfl
  have hmid : ((P.data[T0.length]!).toNat : Int) = 10 := by
    rw [hg _ (by omega)]
    have : (by_ P)[T0.length]'(by rw [by_len]; omega) = 10 := by
      have e : (by_ P)[T0.length]? = some 10 := by rw [h]; simp
      rw [List.getElem?_eq_getElem (by rw [by_len]; omega)] at e
      injection e
    rw [this]
    rfl
  rcases Lib.lastIndexByte_spec P 10 with ⟨_, q⟩ | ⟨i, q1, q2, q3, q4⟩
  · exact absurd hmid (q _ (by omega))
  · rw [q2]
    rcases Nat.lt_trichotomy i T0.length with k | k | k
    · exact absurd hmid (q4 _ k (by omega))
    · rw [k]
    · exfalso
      rw [hg i q1] at q3
      have e : (by_ P)[i]? = b[i - (T0.length + 1)]? := by
        rw [h, List.getElem?_append_right (by omega)]
        obtain ⟨t, ht⟩ : ∃ t, i - T0.length = t + 1 := ⟨i - T0.length - 1, by omega⟩
        rw [ht, List.getElem?_cons_succ]
        congr 1
        omega
      rw [List.getElem?_eq_getElem (by rw [by_len]; exact q1)] at e
      have hm : (by_ P)[i]'(by rw [by_len]; exact q1) ∈ b := List.mem_of_getElem? e.symm
      have := hb _ hm
      exact this (UInt8.toNat_inj.1 (by have : (10 : UInt8).toNat = 10 := rfl; omega))
theorem sum_take (l : List (List UInt8 × List Int × List (List Int))) (k : Nat) : ((l.take k).map fun x => x.2.2.length).sum ≤ (l.map fun x => x.2.2.length).sum := by
  have : (l.map fun x => x.2.2.length).sum = ((l.take k).map fun x => x.2.2.length).sum + ((l.drop k).map fun x => x.2.2.length).sum := by
    rw [← List.sum_append, ← List.map_append, List.take_append_drop]
  omega
/-- The law's none of a detail without anything. -/
theorem nul_any (p : PV) (w : World) (hv : DetV w det0 p) : Calls Tryz.prog 23 #[.agg (detC det0 p)] w fun e w' => e = .returned (.bool true) ∧ Below w.heap.size w w' := by
  have H : Hid (∀ W, Below w.heap.size w W → Calls Tryz.prog 19 #[.agg (detC det0 p), .agg zeroD] W fun e w' => e = .returned (.bool true) ∧ Below W.heap.size W w') := Lib.hid fun W hb => by
    have h := same_any det0 det0 p (nilP undef) Det.sh.zero Det.sh.zero W (hv.up hb) (detV_nil _ _)
    rw [decide_eq_true rfl, detC_zero] at h
    exact h
  have s1 := detC_size det0 p
  clear hv
  generalize detC det0 p = cs at *
  unfold zeroD at H
  go_enter Tryz.func23, Tryz.ntmps23
  go_upto_region 1 with fail
  generalize hWW : World.alloc w _ = W
  have ka : At W w.heap.size 34 cs := by rw [← hWW]; exact At.new' rfl
  have HB : Below w.heap.size w W := by rw [← hWW]; exact below_al (Below.refl _ _) _
  clear hWW
  go_wp2_with (first | (refine wpList_load_row rfl 34 (.tmp 1) rfl w.heap.size (by simp [Act.eval]) 34 cs (0, 0) _ ka Tryz.underlying34 rfl (by rw [s1]; kernel_rfl) ?_) | fail)
  refine (H.out W HB).mono ?_
  rintro e w2 ⟨rfl, hb2⟩
  have HB2 := below_then HB hb2
  go_wp2_with fail
  go_ret
  exact ⟨rfl, HB2⟩
theorem by_ex0 (S : ByteArray) (m : Nat) : by_ (S.extract 0 m) = (by_ S).take m := by_take S m
theorem by_exd (S : ByteArray) (m : Nat) : by_ (S.extract m S.size) = (by_ S).drop m := by_drop S m

set_option maxRecDepth 100000 in
set_option maxHeartbeats 8000000 in
theorem sourceBack_walk (d : Det) (p : PV) (hs : d.shp) (hf : d.few) (w : World) (hv : DetV w d p) (he : Env w) : Calls Tryz.prog 7 #[.agg (detC d p)] w fun e w' => e = .returned (.bool true) ∧ Below w.heap.size w w' := by
  have HG : Hid (∀ w', Below w.heap.size w w' → Calls Tryz.prog 10 #[.agg (detC d p)] w' (GreatE d w')) := Lib.hid fun w' hb => great_any d p hs hf w' (hv.up hb)
  have HT : Hid (d.sh → ∀ w', Below w.heap.size w w' → Calls Tryz.prog 11 #[.agg (detC d p)] w' fun e w2 => e = .returned (.tuple #[.string ⟨(textR d).1.toArray⟩, .int .i64 (textR d).2]) ∧ Below w'.heap.size w' w2) := Lib.hid fun h w' hb => text_any d p h w' (hv.up hb) (he.bel hb)
  have HW : Hid (d.sh → ∀ w', Below w.heap.size w w' → Calls Tryz.prog 12 #[.agg (detC d p)] w' fun e w2 => e = .returned (.bool (wrD d)) ∧ Below w'.heap.size w' w2) := Lib.hid fun h w' hb => writable_any d p h w' (hv.up hb)
  have HP : Hid (∀ (S : ByteArray) W, Below w.heap.size w W → Calls Tryz.prog 18 #[.string S] W (ParE (by_ S) W)) := Lib.hid fun S W hb => parse_any S W (he.bel hb)
  have HQ : Hid (d.sh → ∀ d2 p2 W, d2.sh → Below w.heap.size w W → DetV W d2 p2 → Calls Tryz.prog 19 #[.agg (detC d p), .agg (detC d2 p2)] W fun e w' => e = .returned (.bool (decide (d = d2))) ∧ Below W.heap.size W w') := Lib.hid fun h d2 p2 W h2 hb hv2 => same_any d d2 p p2 h h2 W (hv.up hb) hv2
  obtain ⟨ab, cb, eb, -⟩ := hv.boxes
  obtain ⟨ah, ch, eh, -⟩ := hv.holes
  obtain ⟨ar, cr, er, -⟩ := hv.bars
  obtain ⟨au, cu, eu, -⟩ := hv.runs
  obtain ⟨al, cl, el, -⟩ := hv.laps
  obtain ⟨ad, cd, ed, -, -, hdow⟩ := hv.dems
  have hzr : (d.bars.zip p.db).length = d.bars.length := by rw [List.length_zip, hv.nb]; simp
  have hzd : (d.dems.zip p.ds).length = d.dems.length := by rw [List.length_zip, hv.ns]; simp
  obtain ⟨nb, hnb⟩ : ∃ n, d.boxes.length = n := ⟨_, rfl⟩
  obtain ⟨nh, hnh⟩ : ∃ n, d.holes.length = n := ⟨_, rfl⟩
  obtain ⟨nr, hnr⟩ : ∃ n, d.bars.length = n := ⟨_, rfl⟩
  obtain ⟨nu, hnu⟩ : ∃ n, d.runs.length = n := ⟨_, rfl⟩
  obtain ⟨nl, hnl⟩ : ∃ n, d.laps.length = n := ⟨_, rfl⟩
  obtain ⟨nd, hnd⟩ : ∃ n, d.dems.length = n := ⟨_, rfl⟩
  rw [hnb] at eb
  rw [hnh] at eh
  rw [hzr, hnr] at er
  rw [hnu] at eu
  rw [hnl] at el
  rw [hzd, hnd] at ed
  have hx : Hid (∀ W, At W w.heap.size 34 (detC d p) → W.cell? ⟨w.heap.size, 1, none⟩ = some (.slice ab nb cb) ∧ W.cell? ⟨w.heap.size, 2, none⟩ = some (.slice ah nh ch) ∧ W.cell? ⟨w.heap.size, 6, none⟩ = some (.slice ar nr cr) ∧ W.cell? ⟨w.heap.size, 7, none⟩ = some (.slice au nu cu) ∧ W.cell? ⟨w.heap.size, 8, none⟩ = some (.slice al nl cl) ∧ W.cell? ⟨w.heap.size, 9, none⟩ = some (.slice ad nd cd)) := Lib.hid fun W k => by
    rw [← eb, ← eh, ← er, ← eu, ← el, ← ed]
    exact ⟨k.c 1, k.c 2, k.c 6, k.c 7, k.c 8, k.c 9⟩
  have hsd := hs.dems
  have hDem : Hid (∀ W k, Below w.heap.size w W → (hk : k < nd) → ∃ bb off NM e0 e1 e2 e3 e4 e5 sa m sc, ad = some ⟨bb, off, none⟩ ∧ ((d.dems.take (k + 1)).map fun x => x.2.2.length).sum = ((d.dems.take k).map fun x => x.2.2.length).sum + m ∧ W.cell? ⟨bb, off + k * 8, none⟩ = some (.string NM) ∧ W.cell? ⟨bb, off + k * 8 + 1, none⟩ = some (.int .i64 e0) ∧ W.cell? ⟨bb, off + k * 8 + 2, none⟩ = some (.int .i64 e1) ∧ W.cell? ⟨bb, off + k * 8 + 3, none⟩ = some (.int .i64 e2) ∧ W.cell? ⟨bb, off + k * 8 + 4, none⟩ = some (.int .i64 e3) ∧ W.cell? ⟨bb, off + k * 8 + 5, none⟩ = some (.int .i64 e4) ∧ W.cell? ⟨bb, off + k * 8 + 6, none⟩ = some (.int .i64 e5) ∧ W.cell? ⟨bb, off + k * 8 + 7, none⟩ = some (.slice sa m sc)) := Lib.hid fun W k hbw hk => by
    obtain ⟨bb, off, e, hbl, hc⟩ := hdow k (by rw [hzd, hnd]; exact hk)
    rw [List.getElem_zip] at hc
    obtain ⟨sa, sc, q, _⟩ := hv.steps k (by rw [hnd]; exact hk) (by rw [hv.ns, hnd]; exact hk)
    rw [q] at hc
    refine ⟨bb, off, ⟨(d.dems[k]'(by rw [hnd]; exact hk)).1.toArray⟩, _, _, _, _, _, _, sa, (d.dems[k]'(by rw [hnd]; exact hk)).2.2.length, sc, e, ?_, (hbw.cell hbl).trans (hc 0 _ rfl), (hbw.cell hbl).trans (hc 1 _ rfl), (hbw.cell hbl).trans (hc 2 _ rfl), (hbw.cell hbl).trans (hc 3 _ rfl), (hbw.cell hbl).trans (hc 4 _ rfl), (hbw.cell hbl).trans (hc 5 _ rfl), (hbw.cell hbl).trans (hc 6 _ rfl), (hbw.cell hbl).trans (hc 7 _ rfl)⟩
    rw [List.take_succ_eq_append_getElem (by rw [hnd]; exact hk), List.map_append, List.sum_append]
    simp
  have hMany : Hid (manyD d = nb + nh + nr + nu + nl + nd + (d.dems.map fun x => x.2.2.length).sum) := Lib.hid (by unfold manyD; omega)
  replace hnd := Lib.hid hnd
  have hDV := Lib.hid hv
  have h1c := detV_one hv
  have hsz := detC_size d p
  have hsh := hs
  replace he := Lib.hid he
  clear hv hs hf eb eh er eu el ed hdow hzr hzd hnb hnh hnr hnu hnl hsd
  generalize hcs : detC d p = cs at *
  replace hcs := Lib.hid hcs
  go_enter Tryz.func7, Tryz.ntmps7
  go_upto_region 1 with fail
  generalize hWW : World.alloc w _ = WW
  have k0 : At WW w.heap.size 34 cs := by rw [← hWW]; exact At.new' rfl
  have hb0 : Below w.heap.size w WW := by rw [← hWW]; exact below_al (Below.refl _ _) _
  clear hWW
  go_wp2_with fail
  refine (awake_any WW (he.out.bel hb0)).mono ?_
  rintro e w1 ⟨rfl, hb1⟩
  have k1 := k0.bel hb1
  have hB1 := Lib.hid (below_then hb0 hb1)
  clear k0 hb0 hb1
  go_wp2_with (first | (refine wpList_load_row rfl 34 (.tmp 1) rfl w.heap.size (by simp [Act.eval]) 34 cs (0, 0) _ k1 Tryz.underlying34 rfl (by rw [hsz]; kernel_rfl) ?_) | fail)
  refine (HG.out w1 hB1.out).mono ?_
  rintro e w2 ⟨b, rfl, hb2, hG⟩
  have k2 := k1.bel hb2
  have hB2 := Lib.hid (below_then hB1.out hb2)
  clear k1 hB1 hb2 HG
  cases b with
  | true =>
    go_wp2_with fail
    go_ret
    exact ⟨rfl, hB2.out⟩
  | false =>
    obtain ⟨hSD, hmany⟩ := hG rfl
    have hS := Lib.hid (hsh.sh hSD)
    replace HT := Lib.hid (HT.out hS.out)
    replace HW := Lib.hid (HW.out hS.out)
    replace HQ := Lib.hid (HQ.out hS.out)
    replace hmany := Lib.hid hmany
    clear hSD hsh hG
    obtain ⟨T, hT⟩ : ∃ T : ByteArray, T = ⟨(textR d).1.toArray⟩ := ⟨_, rfl⟩
    obtain ⟨E, hE⟩ : ∃ E, (textR d).2 = E := ⟨_, rfl⟩
    rw [← hT, hE] at HT
    replace hT := Lib.hid hT
    replace hE := Lib.hid hE
    obtain ⟨Wr, hWr⟩ : ∃ b, wrD d = b := ⟨_, rfl⟩
    rw [hWr] at HW
    replace hWr := Lib.hid hWr
    go_wp2_with (first | (refine wpList_load_row rfl 34 (.tmp 1) rfl w.heap.size (by simp [Act.eval]) 34 cs (0, 0) _ k2 Tryz.underlying34 rfl (by rw [hsz]; kernel_rfl) ?_) | fail)
    refine (HT.out w2 hB2.out).mono ?_
    rintro e w3 ⟨rfl, hb3⟩
    have k3 := k2.bel hb3
    have hB3 := Lib.hid (below_then hB2.out hb3)
    clear k2 hB2 hb3 HT
    cases Wr with
    | false =>
      have hTR : textR d = ([], 1) := by unfold textR; rw [hWr.out]; rfl
      obtain rfl : T = ⟨#[]⟩ := by rw [hT.out, hTR]
      obtain rfl : E = 1 := by rw [← hE.out, hTR]
      clear hTR
      go_wp2_with (first | (refine wpList_load_row_w (by rfl) 34 (.tmp 1) rfl w.heap.size (by simp [Act.eval, Act.put]) 34 cs (0, 0) _ k3 Tryz.underlying34 rfl (by rw [hsz]; kernel_rfl) ?_) | fail)
      refine (HW.out w3 hB3.out).mono ?_
      rintro e w4 ⟨rfl, hb4⟩
      have hB4 := Lib.hid (below_then hB3.out hb4)
      clear hb4 k3 hB3
      go_wp2_with fail
      go_ret
      exact ⟨rfl, hB4.out⟩
    | true =>
      have hWd : Hid (WrD d) := Lib.hid ((wrD_iff d).1 hWr.out)
      have hm80 : Hid (manyD d ≤ 80) := Lib.hid (hmany.out hWr.out)
      have hlen : Hid ((textD d).length ≤ 262144) := Lib.hid (by
        have h1 := textD_size hS.out hWd.out
        have h2 := hm80.out
        omega)
      have hTR : textR d = (textD d, 0) := by unfold textR; rw [if_pos hWr.out, if_neg (by have := hlen.out; omega)]
      have hTb : Hid (by_ T = textD d) := Lib.hid (by rw [hT.out, hTR, mk_by])
      obtain rfl : E = 0 := by rw [← hE.out, hTR]
      have HPT : Hid (∀ W, Below w.heap.size w W → Calls Tryz.prog 18 #[.string T] W fun e w' => ∃ p2, e = .returned (.tuple #[.agg (detC d p2), .agg #[.int .i64 0, .int .i64 0], .int .i64 0]) ∧ Hid (DetV w' d p2) ∧ Below W.heap.size W w') := Lib.hid fun W hb => by
        have h := HP.out T W hb
        unfold ParE at h
        rw [hTb.out, (read_text (wf_sh hS.out hWd.out) hWr.out hlen.out).2] at h
        exact h.mono fun e w' ⟨p2, q1, q2, q3⟩ => ⟨p2, q1, Lib.hid q2, q3⟩
      obtain ⟨T1, b, eT, nob, ⟨T0, eT0⟩, hcase⟩ := back_cut hS.out hWd.out hlen.out
      obtain ⟨Nt, hNt⟩ : ∃ Nt : Int, Nt = ((2 + manyD d : Nat) : Int) := ⟨_, rfl⟩
      obtain ⟨q, hq⟩ : ∃ q, T0.length = q := ⟨_, rfl⟩
      have hT1 : T1.length = q + 1 := by rw [eT0, List.length_append, hq]; rfl
      have hTsz : T.size = q + 1 + b.length + 1 := by rw [← by_len, hTb.out, eT]; simp [hT1]; omega
      obtain ⟨m, hm⟩ : ∃ m, q + 1 + b.length = m := ⟨_, rfl⟩
      rw [hm] at hTsz
      have hTle : T.size ≤ 262144 := by rw [← by_len, hTb.out]; exact hlen.out
      have HCt : Hid (∀ W, Calls Tryz.prog 25 #[.string T, .string ⟨#[10]⟩] W fun e w' => e = .returned (.int .i64 Nt) ∧ w' = W) := Lib.hid fun W => by
        have h := Tryz.strings_Count_one T 10 W
        have e : (Lib.countByte T.data.toList 10 : Nat) = 2 + manyD d := by
          show (by_ T).count 10 = _
          rw [hTb.out]
          exact back_count hS.out hWd.out
        rw [e, ← hNt] at h
        exact h
      have HSf : Hid (∀ W, Calls Tryz.prog 26 #[.string T, .string ⟨#[10]⟩] W fun e w' => e = .returned (.bool true) ∧ w' = W) := Lib.hid fun W => by
        have h := Tryz.strings_HasSuffix T ⟨#[10]⟩ W (by omega)
        have e : Lib.hasSuffix T.data.toList (⟨#[10]⟩ : ByteArray).data.toList = true := by
          show List.isSuffixOf [10] (by_ T) = true
          rw [hTb.out, eT, List.isSuffixOf_iff_suffix]
          exact List.suffix_append _ _
        rw [e] at h
        exact h
      have HLi : Hid (∀ W, Calls Tryz.prog 27 #[.string (T.extract 0 m), .int .u8 10] W fun e w' => e = .returned (.int .i64 (q : Int)) ∧ w' = W) := Lib.hid fun W => by
        have h := Tryz.strings_LastIndexByte (T.extract 0 m) 10 (by have : (T.extract 0 m).size = (by_ (T.extract 0 m)).length := (by_len _).symm; rw [this, by_ex0, List.length_take, by_len]; omega) W
        have e : Lib.lastIndexByte (T.extract 0 m) 10 = (q : Int) := by
          rw [← hq]
          refine last_nl (b := b) ?_ nob
          rw [by_ex0, hTb.out, eT, List.take_left' (by rw [List.length_append, hT1]; exact hm), eT0, List.append_assoc]
          rfl
        rw [e] at h
        exact h
      have hB1e : Hid (by_ (T.extract 0 (q + 1)) = T1) := Lib.hid (by rw [by_ex0, hTb.out, eT, List.append_assoc, List.take_left' hT1])
      have hB2e : Hid (by_ (T.extract (q + 1) T.size) = b ++ [10]) := Lib.hid (by rw [by_exd, hTb.out, eT, List.append_assoc, List.drop_left' hT1])
      have HP1 : Hid (∀ W, Below w.heap.size w W → Calls Tryz.prog 18 #[.string (T.extract 0 (q + 1))] W (ParE T1 W)) := Lib.hid fun W hb => by
        have h := HP.out (T.extract 0 (q + 1)) W hb
        rw [hB1e.out] at h
        exact h
      have HPr : Hid ((∃ r, b = 114 :: 117 :: 108 :: 101 :: 32 :: r) → ∀ W, Calls Tryz.prog 28 #[.string (T.extract (q + 1) T.size), .string ⟨#[114, 117, 108, 101, 32]⟩] W fun e w' => e = .returned (.bool true) ∧ w' = W) := Lib.hid fun ⟨r, hr⟩ W => by
        have h := Tryz.strings_HasPrefix (T.extract (q + 1) T.size) ⟨#[114, 117, 108, 101, 32]⟩ W
        have e : Lib.hasPrefix (T.extract (q + 1) T.size).data.toList (⟨#[114, 117, 108, 101, 32]⟩ : ByteArray).data.toList = true := by
          show List.isPrefixOf [114, 117, 108, 101, 32] (by_ (T.extract (q + 1) T.size)) = true
          rw [hB2e.out, hr]
          rfl
        rw [e] at h
        exact h
      replace hcase := Lib.hid hcase
      replace hNt := Lib.hid hNt
      clear eT nob eT0 hq hT1 hTR HP hlen hmany hB1e hB2e hT hE HW
      have hqm : q + 1 ≤ m := by omega
      replace hm := Lib.hid hm
      go_wp2_with fail
      refine (HPT.out w3 hB3.out).mono ?_
      rintro e w4 ⟨p2, rfl, hV4, hb4⟩
      have k4 := k3.bel hb4
      have hB4 := Lib.hid (below_then hB3.out hb4)
      clear k3 hB3 hb4 HPT
      obtain ⟨X, hX⟩ : ∃ X, w4.heap.size = X := ⟨_, rfl⟩
      have h1c := detV_one hV4.out
      have hszX := detC_size d p2
      have hRow : Hid (∀ W9, ((w4.alloc (.cells zeroD 34)).alloc (.cells #[.int .i64 0, .int .i64 0] 43)).setRow X (detC d p2) = W9 → At W9 X 34 (detC d p2) ∧ At W9 (X + 1) 43 #[.int .i64 0, .int .i64 0] ∧ Hid (Below X w4 W9)) := Lib.hid fun W9 e => by
        have a0 : At ((w4.alloc (.cells zeroD 34)).alloc (.cells #[.int .i64 0, .int .i64 0] 43)) X 34 zeroD := (At.new' hX.symm).al _
        have a1 : At ((w4.alloc (.cells zeroD 34)).alloc (.cells #[.int .i64 0, .int .i64 0] 43)) (X + 1) 43 #[.int .i64 0, .int .i64 0] := At.new' (by simp [hX])
        rw [← e]
        refine ⟨a0.rowAt, a1.row (by omega), Lib.hid (below_row ?_ (Nat.le_refl X) _)⟩
        rw [← hX]
        exact below_al (below_al (Below.refl _ _) _) _
      have hz0' : Hid (At ((w4.alloc (.cells zeroD 34)).alloc (.cells #[.int .i64 0, .int .i64 0] 43)) X 34 zeroD) := Lib.hid ((At.new' hX.symm).al _)
      go_upto_region 9 with (first | (refine wpList_store_row rfl 34 (.tmp 5) (.tmp 40) rfl X (detC d p2) (by simp [Act.eval, hX]) (by simp [Act.eval]) 34 zeroD hz0'.out (by rw [hszX]; kernel_rfl) (by rw [hszX]; rfl) h1c ?_; generalize hW9 : World.setRow _ _ _ = W9; obtain ⟨kx0, kQ, hb9⟩ := hRow.out W9 hW9; have y0 : W9.cell? ⟨X + 1, 0, none⟩ = some (.int .i64 0) := kQ.c 0; have y1 : W9.cell? ⟨X + 1, 1, none⟩ = some (.int .i64 0) := kQ.c 1; have yf0 : W9.frozen? ⟨X + 1, 0, none⟩ = false := kQ.f 0; have yf1 : W9.frozen? ⟨X + 1, 1, none⟩ = false := kQ.f 1) | fail)
      generalize hW3 : World.setCell (World.setCell W9 _ _) _ _ = W5
      have kX : At W5 X 34 (detC d p2) := by rw [← hW3]; exact (kx0.ne ⟨X + 1, 0, none⟩ _ (by simp)).ne ⟨X + 1, 1, none⟩ _ (by simp)
      have hbW5 : Below w4.heap.size w4 W5 := by rw [hX, ← hW3]; exact below_sc (below_sc hb9.out (by omega) 0 _) (by omega) 1 _
      have hVW5 := Lib.hid (hV4.out.up hbW5)
      have hBW5 := Lib.hid (below_then hB4.out hbW5)
      have kPos : At W5 (X + 1) 43 #[.int .i64 0, .int .i64 0] := by
        rw [← hW3]
        have := (kQ.put 0 (.int .i64 0)).put 1 (.int .i64 0)
        simpa using this
      clear hW3 hW9 kx0 kQ hb9 y0 y1 yf0 yf1 hRow hz0' hX h1c
      have k5 := k4.bel hbW5
      have y0 : W5.cell? ⟨X + 1, 0, none⟩ = some (.int .i64 0) := kPos.c 0
      have y1 : W5.cell? ⟨X + 1, 1, none⟩ = some (.int .i64 0) := kPos.c 1
      have HQ5 : Hid (Calls Tryz.prog 19 #[.agg cs, .agg (detC d p2)] W5 fun e w' => e = .returned (.bool true) ∧ Below W5.heap.size W5 w') := Lib.hid (by
        have h := HQ.out d p2 W5 hS.out hBW5.out hVW5.out
        rwa [decide_eq_true rfl] at h)
      clear k4 hB4 hbW5 kPos hV4 hVW5
      go_wp2_with (first | (refine wpList_load_row_w (by rfl) 34 (.tmp 1) rfl w.heap.size (by simp [Act.eval, Act.put]) 34 cs (0, 0) _ k5 Tryz.underlying34 rfl (by rw [hsz]; kernel_rfl) ?_) | (refine wpList_load_row_w (by rfl) 34 (.tmp 5) rfl X (by simp [Act.eval, Act.put]) 34 (detC d p2) (0, 0) _ kX Tryz.underlying34 rfl (by rw [hszX]; kernel_rfl) ?_) | fail)
      refine HQ5.out.mono ?_
      rintro e w6 ⟨rfl, hb6⟩
      have k6 := k5.bel hb6
      have hB6 := Lib.hid (below_then hBW5.out hb6)
      clear k5 hBW5 hb6 HQ5 kX y0 y1 hszX
      obtain ⟨x1, x2, x6, x7, x8, x9⟩ := hx.out w6 k6
      have hM9 : nb + nh + nr + nu + nl + nd + (d.dems.map fun x => x.2.2.length).sum ≤ 80 := by rw [← hMany.out]; exact hm80.out
      obtain ⟨n0, hn0⟩ : ∃ n : Int, (2 : Int) + (nb : Int) = n := ⟨_, rfl⟩
      have e0 : IntKind.i64.wrap ((2 : Int) + (nb : Int)) = n0 := by rw [wrap_in (by omega)]; exact hn0
      obtain ⟨n1, hn1⟩ : ∃ n : Int, n0 + (nh : Int) = n := ⟨_, rfl⟩
      have e1 : IntKind.i64.wrap (n0 + (nh : Int)) = n1 := by rw [wrap_in (by omega)]; exact hn1
      obtain ⟨n2, hn2⟩ : ∃ n : Int, n1 + (nr : Int) = n := ⟨_, rfl⟩
      have e2 : IntKind.i64.wrap (n1 + (nr : Int)) = n2 := by rw [wrap_in (by omega)]; exact hn2
      obtain ⟨n3, hn3⟩ : ∃ n : Int, n2 + (nu : Int) = n := ⟨_, rfl⟩
      have e3 : IntKind.i64.wrap (n2 + (nu : Int)) = n3 := by rw [wrap_in (by omega)]; exact hn3
      obtain ⟨n4, hn4⟩ : ∃ n : Int, n3 + (nl : Int) = n := ⟨_, rfl⟩
      have e4 : IntKind.i64.wrap (n3 + (nl : Int)) = n4 := by rw [wrap_in (by omega)]; exact hn4
      obtain ⟨n5, hn5⟩ : ∃ n : Int, n4 + (nd : Int) = n := ⟨_, rfl⟩
      have e5 : IntKind.i64.wrap (n4 + (nd : Int)) = n5 := by rw [wrap_in (by omega)]; exact hn5
      replace hn5 : Hid (((2 + nb + nh + nr + nu + nl + nd : Nat) : Int) = n5) := Lib.hid (by omega)
      clear hn0 hn1 hn2 hn3 hn4
      have hnd9 : nd ≤ 80 := by omega
      replace hM9 := Lib.hid hM9
      go_wp2_with fail
      go_loopg [8, 87] nd (fun g s i wr => ∃ (k : Nat) (N : Int), k ≤ nd ∧ s = .int .i64 N ∧ i = .int .i64 (k : Int) ∧ Hid (g = nd - k ∧ N = n5 + (((d.dems.take k).map fun x => x.2.2.length).sum : Nat)) ∧ Hid (Below w6.heap.size w6 wr))
      case atStart => exact ⟨0, n5, Nat.zero_le _, rfl, rfl, Lib.hid ⟨rfl, by simp⟩, Lib.hid (Below.refl _ _)⟩
      case round =>
        clear x1 x2 x6 x7 x8 x9 e0 e1 e2 e3 e4 e5
        obtain ⟨k, N, hk, rfl, rfl, hr, hb⟩ := hrel
        have hBw := Lib.hid (below_then hB6.out hb.out)
        by_cases hlt : k < nd
        · obtain ⟨bb, off, NM, e0, e1, e2, e3, e4, e5, sa, t, sc, rfl, hsum, q0, q1, q2, q3, q4, q5, q6, q7⟩ := hDem.out wr k hBw.out hlt
          obtain ⟨N', hN'⟩ : ∃ N' : Int, N + (t : Int) = N' := ⟨_, rfl⟩
          have hst := sum_take d.dems (k + 1)
          have eN : IntKind.i64.wrap (N + (t : Int)) = N' := by rw [wrap_in (by have := hr.out.2; have := hM9.out; have := hn5.out; omega)]; exact hN'
          have hnx : Hid (N' = n5 + (((d.dems.take (k + 1)).map fun x => x.2.2.length).sum : Nat)) := Lib.hid (by
            have h1 := hr.out.2
            rw [hsum]
            omega)
          replace hN' := Lib.hid hN'
          clear hst hsum
          go_wp2_with fail
          generalize hWW : World.alloc wr _ = W1
          have hb1 : Hid (Below w6.heap.size w6 W1) := Lib.hid (by rw [← hWW]; exact below_al hb.out _)
          clear hWW
          go_roundg (nd - (k + 1))
          case measure => have := hr.out.1; omega
          case rel => exact ⟨k + 1, N', by omega, rfl, by go_num, Lib.hid ⟨rfl, hnx.out⟩, hb1⟩
        · obtain rfl : N = Nt := by
            have h1 := hr.out.2
            rw [List.take_of_length_le (by have := hnd.out; omega)] at h1
            have h2 := hNt.out
            have h3 := hMany.out
            have h4 := hn5.out
            omega
          have k7 := k6.bel hb.out
          clear k6 hr hn5 hM9 hDem hx hMany hnd hNt hB6 hb
          go_wp2_with fail
          refine (HCt.out _).mono ?_
          rintro e w7 ⟨rfl, rfl⟩
          go_wp2_with fail
          refine (HSf.out _).mono ?_
          rintro e w8 ⟨rfl, rfl⟩
          have hw1 : IntKind.i64.wrap (((m + 1 : Nat) : Int) - 1) = (m : Int) := by rw [wrap_in (by omega)]; omega
          have hw2 : IntKind.i64.wrap ((q : Int) + 1) = ((q + 1 : Nat) : Int) := by rw [wrap_in (by omega)]; omega
          go_wp2_with fail
          refine (HLi.out _).mono ?_
          rintro e w9 ⟨rfl, rfl⟩
          go_wp2_with fail
          refine (HP1.out _ hBw.out).mono ?_
          rintro e w10 ⟨p3, rfl, hV10, hb10⟩
          have k10 := k7.bel hb10
          have hB10 := Lib.hid (below_then hBw.out hb10)
          replace hV10 := Lib.hid hV10
          clear k7 hBw hb10 HP1 HLi HCt HSf
          generalize srcS T1 = SR at *
          obtain ⟨z, ⟨L, C⟩, g⟩ := SR
          dsimp only at *
          obtain ⟨X2, hX2⟩ : ∃ X, w10.heap.size = X := ⟨_, rfl⟩
          have h1c := detV_one hV10.out
          have hszX2 := detC_size z p3
          have hRow : Hid (∀ W9, ((w10.alloc (.cells zeroD 34)).alloc (.cells #[.int .i64 0, .int .i64 0] 43)).setRow X2 (detC z p3) = W9 → At W9 X2 34 (detC z p3) ∧ At W9 (X2 + 1) 43 #[.int .i64 0, .int .i64 0] ∧ Hid (Below X2 w10 W9)) := Lib.hid fun W9 e => by
            have a0 : At ((w10.alloc (.cells zeroD 34)).alloc (.cells #[.int .i64 0, .int .i64 0] 43)) X2 34 zeroD := (At.new' hX2.symm).al _
            have a1 : At ((w10.alloc (.cells zeroD 34)).alloc (.cells #[.int .i64 0, .int .i64 0] 43)) (X2 + 1) 43 #[.int .i64 0, .int .i64 0] := At.new' (by simp [hX2])
            rw [← e]
            refine ⟨a0.rowAt, a1.row (by omega), Lib.hid (below_row ?_ (Nat.le_refl X2) _)⟩
            rw [← hX2]
            exact below_al (below_al (Below.refl _ _) _) _
          have hz0' : Hid (At ((w10.alloc (.cells zeroD 34)).alloc (.cells #[.int .i64 0, .int .i64 0] 43)) X2 34 zeroD) := Lib.hid ((At.new' hX2.symm).al _)
          go_upto_region 21 with (first | (refine wpList_store_row rfl 34 (.tmp 12) (.tmp 118) rfl X2 (detC z p3) (by simp [Act.eval, hX2]) (by simp [Act.eval]) 34 zeroD hz0'.out (by rw [hszX2]; kernel_rfl) (by rw [hszX2]; rfl) h1c ?_; generalize hW9 : World.setRow _ _ _ = W9; obtain ⟨kx0, kQ, hb9⟩ := hRow.out W9 hW9; have y0 : W9.cell? ⟨X2 + 1, 0, none⟩ = some (.int .i64 0) := kQ.c 0; have y1 : W9.cell? ⟨X2 + 1, 1, none⟩ = some (.int .i64 0) := kQ.c 1; have yf0 : W9.frozen? ⟨X2 + 1, 0, none⟩ = false := kQ.f 0; have yf1 : W9.frozen? ⟨X2 + 1, 1, none⟩ = false := kQ.f 1) | fail)
          generalize hW3 : World.setCell (World.setCell W9 _ _) _ _ = W11
          have kX2 : At W11 X2 34 (detC z p3) := by rw [← hW3]; exact (kx0.ne ⟨X2 + 1, 0, none⟩ _ (by simp)).ne ⟨X2 + 1, 1, none⟩ _ (by simp)
          have hbW11 : Below w10.heap.size w10 W11 := by rw [hX2, ← hW3]; exact below_sc (below_sc hb9.out (by omega) 0 _) (by omega) 1 _
          have hVW11 := Lib.hid (hV10.out.up hbW11)
          have hBW11 := Lib.hid (below_then hB10.out hbW11)
          clear hW3 hW9 kx0 kQ hb9 y0 y1 yf0 yf1 hRow hz0' hX2 h1c
          have k11 := k10.bel hbW11
          clear k10 hB10 hbW11 hV10
          rcases hcase.out with ⟨rfl, rfl, hpre⟩ | ⟨d', hd', hne, hsh'⟩
          · have HPs := HPr.out hpre
            rw [hTsz] at HPs
            replace HPs := Lib.hid HPs
            have hEm := Lib.hid hVW11.out
            have hq2 : q + 1 ≤ T.size := by omega
            clear hcase hpre HPr hVW11 k11
            go_wp2_with (first | (refine wpList_load_row rfl 34 (.tmp 12) rfl X2 (by simp [Act.eval]) 34 (detC det0 p3) (0, 0) _ kX2 Tryz.underlying34 rfl (by rw [hszX2]; kernel_rfl) ?_) | fail)
            refine (nul_any _ W11 hEm.out).mono ?_
            rintro e w12 ⟨rfl, hb12⟩
            have hB12 := Lib.hid (below_then hBW11.out hb12)
            clear hb12 hBW11 kX2
            go_wp2_with fail
            refine (HPs.out _).mono ?_
            rintro e w13 ⟨rfl, rfl⟩
            go_wp2_with fail
            go_ret
            exact ⟨rfl, hB12.out⟩
          · obtain ⟨rfl, -, rfl⟩ : z = d' ∧ (L, C) = ((0 : Int), (0 : Int)) ∧ g = 0 := by
              injection hd' with a b
              injection b with b c
              exact ⟨a, b, c⟩
            have HQ11 : Hid (Calls Tryz.prog 19 #[.agg cs, .agg (detC z p3)] W11 fun e w' => e = .returned (.bool false) ∧ Below W11.heap.size W11 w') := Lib.hid (by
              have h := HQ.out z p3 W11 hsh' hBW11.out hVW11.out
              rwa [decide_eq_false (fun e => hne e.symm)] at h)
            clear hcase HPr hVW11 hne hsh' hd'
            go_wp2_with (first | (refine wpList_load_row rfl 34 (.tmp 1) rfl w.heap.size (by simp [Act.eval]) 34 cs (0, 0) _ k11 Tryz.underlying34 rfl (by rw [hsz]; kernel_rfl) ?_) | (refine wpList_load_row rfl 34 (.tmp 12) rfl X2 (by simp [Act.eval, Act.put]) 34 (detC z p3) (0, 0) _ kX2 Tryz.underlying34 rfl (by rw [hszX2]; kernel_rfl) ?_) | fail)
            refine HQ11.out.mono ?_
            rintro e w12 ⟨rfl, hb12⟩
            have hB12 := Lib.hid (below_then hBW11.out hb12)
            clear hb12 hBW11 kX2 k11
            go_wp2_with fail
            go_ret
            exact ⟨rfl, hB12.out⟩

end Go.Proofs.YtccakklnbhcbdaaGreatDoor
