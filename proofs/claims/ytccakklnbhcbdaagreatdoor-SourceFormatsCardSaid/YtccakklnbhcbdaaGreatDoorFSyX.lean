import Derived.Test.YtccakklnbhcbdaaGreatDoorFSyE
import Derived.Test.YtccakklnbhcbdaaGreatDoorFMRf
set_option linter.unusedVariables false
set_option linter.unusedSimpArgs false
namespace Go.Proofs.YtccakklnbhcbdaaGreatDoor
open Go.ChangeShapes Go.WideShapes Go.ChangeAt Go.RowKit
def NumE (w : World) (D : Except Nat (List Int × Nat)) (e : Ending) (w' : World) : Prop :=
 Below w.heap.size w w' ∧ match D with
 | .error j => e = .returned (.tuple #[.slice none 0 0, .int .i64 (j : Int), .bool false])
 | .ok (l, j) => ∃ v, e = .returned (.tuple #[v, .int .i64 (j : Int), .bool true]) ∧ w'.ownsRow w.heap.size 3 1 v l.length (l.map (Value.int .i64 ·))
theorem NumE.bad {w w' : World} {D : Except Nat (List Int × Nat)} {j : Nat} (hD : D = .error j) (hb : Below w.heap.size w w') : NumE w D (.returned (.tuple #[.slice none 0 0, .int .i64 (j : Int), .bool false])) w' := by
 subst hD
 exact ⟨hb, rfl⟩
theorem NumE.good {w w' : World} {D : Except Nat (List Int × Nat)} {l : List Int} {j : Nat} {v : Value} (hD : D = .ok (l, j)) (hb : Below w.heap.size w w') (ho : w'.ownsRow w.heap.size 3 1 v l.length (l.map (Value.int .i64 ·))) : NumE w D (.returned (.tuple #[v, .int .i64 (j : Int), .bool true])) w' := by
 subst hD
 exact ⟨hb, v, rfl, ho⟩
theorem num_dig {ts : List Tk} {k : Nat} {b : Bool} (hb : minusT (tk ts k) = b) : digT ts k = if b then k + 1 else k := by unfold digT; rw [hb]
theorem num_no {ts : List Tk} {k j : Nat} {b : Bool} (hb : minusT (tk ts k) = b) (hj : (if b then k + 1 else k) = j) (hw : wholeT (tk ts j) = none) : numT ts k = .error j := by
 unfold numT
 rw [num_dig hb, hj, hw]
theorem num_yes {ts : List Tk} {k j : Nat} {b : Bool} (hb : minusT (tk ts k) = b) (hj : (if b then k + 1 else k) = j) {m : Nat} (hw : wholeT (tk ts j) = some m) : numT ts k = .ok (if b then -(m : Int) else (m : Int), j + 1) := by
 unfold numT
 rw [num_dig hb, hj, hw, hb]
theorem tok_cells {w wr : World} {g : Nat} {ts : List Tk} (hT : TokAt w (some ⟨g, 0, none⟩) ts) (hb : Below w.heap.size w wr) {k : Nat} (hk : k < ts.length) : ∃ XS : ByteArray, by_ XS = (tk ts k).text ∧ wr.cell? ⟨g, k * 4, none⟩ = some (.int .i64 (tk ts k).kind) ∧ wr.cell? ⟨g, k * 4 + 1, none⟩ = some (.string XS) ∧ wr.cell? ⟨g, k * 4 + 2, none⟩ = some (.int .i64 (tk ts k).line) ∧ wr.cell? ⟨g, k * 4 + 3, none⟩ = some (.int .i64 (tk ts k).col) := by
 obtain ⟨gq, eg, c0, c1, c2, c3⟩ := hT k hk
 obtain rfl : g = gq := by injection eg with eg; injection eg
 rw [tk_get hk]
 exact ⟨_, mk_by _, cell_up hb c0, cell_up hb c1, cell_up hb c2, cell_up hb c3⟩
set_option maxRecDepth 100000 in
set_option maxHeartbeats 4000000 in
theorem rnumbers_any (ts : List Tk) (hE0 : Ends ts) (w : World) (g c : Nat) (hT0 : TokAt w (some ⟨g, 0, none⟩) ts) (i least : Nat) (more : Bool) (hi : i < ts.length) (hl : least ≤ 9) : Calls Tryz.prog 63 #[.slice (some ⟨g, 0, none⟩) ts.length c, .int .i64 (i : Int), .int .i64 (least : Int), .bool more] w (NumE w (linF ts least more i)) := by
 have hLen := hE0.len
 obtain ⟨D, hD⟩ : ∃ D, linF ts least more i = D := ⟨_, rfl⟩
 have hG0 : Hid (LnG ts least more D [] i) := Lib.hid (hD ▸ LnG.start)
 rw [hD]
 clear hD
 have hT := Lib.hid hT0
 have hE := Lib.hid hE0
 obtain ⟨iz, hiz0, hiz1, hiz2, hiz3⟩ := info_parts infoInt
 clear hT0 hE0
 go_enter Tryz.func63, Tryz.ntmps63
 go_wp2_with fail
 go_loopg [1, 11] (ts.length - i) (fun gm v1 v11 wr => ∃ (k : Nat) (acc : List Int), v1 = .int .i64 (k : Int) ∧ Hid (gm = ts.length - k) ∧ k < ts.length ∧ Hid (LnG ts least more D acc k) ∧ Hid (acc.length ≤ k) ∧ Hid (wr.ownsRow w.heap.size 3 1 v11 acc.length (acc.map (Value.int .i64 ·))) ∧ Hid (Below w.heap.size w wr))
 case atStart => exact ⟨i, [], rfl, Lib.hid rfl, hi, hG0, Lib.hid (Nat.zero_le _), Lib.hid (World.ownsRow_nil _ _ _ _), Lib.hid (Below.refl _ _)⟩
 case round =>
  clear hG0
  obtain ⟨k, acc, rfl, hgm, hkn, hG, hal, hown, HB⟩ := hrel
  obtain ⟨ao, cap, rfl⟩ := own_slice hown.out
  have hal2 := hal.out
  obtain ⟨XS, hXS, x0, x1, x2, x3⟩ := tok_cells hT.out HB.out hkn
  by_cases hlt : acc.length < least
  ·have hgo : Hid (acc.length < least ∨ more = true ∧ (tk ts k).kind ≠ 4) := Lib.hid (.inl hlt)
   have hlt' : decide ((acc.length : Int) < (least : Int)) = true := decide_eq_true (by omega)
   have hBad : Hid (∀ e, numT ts k = .error e → D = .error e) := Lib.hid fun e h => hG.out.bad hkn hgo.out h
   have hGo : Hid (∀ n j, numT ts k = .ok (n, j) → LnG ts least more D (acc ++ [n]) j) := Lib.hid fun n j h => hG.out.go hkn hgo.out h
   by_cases c3 : (tk ts k).kind = 3
   ·by_cases cm : XS = ⟨#[45]⟩
    ·subst cm
     have hmn : Hid (minusT (tk ts k) = true) := Lib.hid (by unfold minusT; rw [c3, ← hXS]; rfl)
     obtain ⟨kj, hkj⟩ : ∃ kj, k + 1 = kj := ⟨_, rfl⟩
     have hk1 : kj < ts.length := by rw [← hkj]; exact hE.out.more k hkn (by rw [c3]; decide)
     obtain ⟨XJ, hXJ, p0, p1, -, -⟩ := tok_cells hT.out HB.out hk1
     have hXl := hE.out.txt kj hk1
     have hkw : IntKind.i64.wrap ((k : Int) + 1) = (kj : Int) := by rw [wrap_in (by omega)]; omega
     have hkw2 : wrap64 ((k : Int) + 1) = (kj : Int) := by simpa [IntKind.wrap_i64, wrap64] using hkw
     replace hkj := Lib.hid hkj
     rw [c3] at x0
     replace c3 := Lib.hid c3
     clear hXS x2 x3
     by_cases c2 : (tk ts kj).kind = 2
     ·rw [c2] at p0
      have hk2 := Lib.hid c2
      clear c2
      obtain ⟨o, ho⟩ : ∃ o, intO (by_ XJ) = o := ⟨_, rfl⟩
      have hWh := whole_v XJ (by have h : (by_ XJ).length = XJ.size := rfl; have := hXl; rw [← hXJ, h] at this; exact this) wr
      rw [ho] at hWh
      replace hWh := Lib.hid hWh
      clear hXl
      go_wp2_with fail
      refine hWh.out.mono ?_
      rintro e w1 ⟨⟨N, rfl, hN⟩, rfl⟩
      cases o with
      | none =>
       have hwT : wholeT (tk ts kj) = none := by unfold wholeT; rw [if_pos hk2.out, ← hXJ, ho]
       have hX : Hid (D = .error kj) := Lib.hid (hBad.out _ (num_no hmn.out (by rw [if_pos rfl]; exact hkj.out) (hwT)))
       clear hwT ho hXJ hN hWh
       go_wp2_with fail
       exact bodyPost_ret (v := .tuple #[.slice none 0 0, .int .i64 ((kj : Nat) : Int), .bool false]) (by simp [results, Tryz.results63, go_sem]) rfl (NumE.bad hX.out HB.out)
      | some m =>
       have hwT : wholeT (tk ts kj) = some m := by unfold wholeT; rw [if_pos hk2.out, ← hXJ, ho]
       have hmb := (intO_val ho).2
       obtain rfl : N = (m : Int) := hN.out m rfl
       have hG2 := Lib.hid (hGo.out _ _ (num_yes hmn.out (by rw [if_pos rfl]; exact hkj.out) hwT))
       have hnl := num_lt hE.out hkn (num_yes hmn.out (j := kj) (by rw [if_pos rfl]; exact hkj.out) hwT)
       have hsub : IntKind.i64.wrap ((0 : Int) - (m : Int)) = -(m : Int) := by rw [wrap_in (by omega)]; omega
       clear hwT ho hXJ hN hWh hlt hlt' hgo
       (try clear hge)
       (try clear p0 p1)
       clear x0 x1
       have hjw : IntKind.i64.wrap (((kj : Nat) : Int) + 1) = ((kj + 1 : Nat) : Int) := wrap_in (by omega)
       have hjw2 : wrap64 (((kj : Nat) : Int) + 1) = ((kj + 1 : Nat) : Int) := by
        have h0 := hjw
        simpa [IntKind.wrap_i64, wrap64] using h0
       obtain ⟨M, hM⟩ : ∃ M : Int, (-(m : Int)) = M := ⟨_, rfl⟩
       rw [hM] at hsub
       replace hM := Lib.hid hM
       go_upto_region 12 with fail
       go_cut [13] from 15 to 74 (fun v wn => v = .int .i64 M ∧ wr = wn)
       case first =>
        clear hG2 hnl hjw hjw2
        go_wp2_with fail
        go_meet
        exact ⟨by first | rfl | rw [hM.out], rfl⟩
       obtain ⟨rfl, rfl⟩ := hcut
       clear hsub
       go_wp2_with (at_builtin; refine wpList_append_own _ rfl _ _ 54 rfl w.heap.size 3 iz (.int .i64 0) 1 8 Tryz.underlying54 hiz0 hiz1 hiz2 hiz3 rfl (by decide) _ _ _ rfl (World.ownsRow.alloc hown.out _) ⟨wr.heap.size, 0, none⟩ 1 1 [.int .i64 M] rfl rfl (new_at (At.new' rfl)) (by intro u hu; simp at hu; subst hu; rfl) (by unfold maxLen; omega) (by omega) (by have := HB.out.size; simp; omega) ?_)
       intro v' w2 hown' hgrow _
       replace HB := Lib.hid ((below_al HB.out _).grown hgrow (by have := HB.out.size; simp; omega) (fun q hq => by have := (hown.out.lt q hq).1; omega))
       rw [show acc.map (Value.int .i64 ·) ++ [Value.int .i64 M] = (acc ++ [M]).map (Value.int .i64 ·) by simp] at hown'
       have hGM : Hid (LnG ts least more D (acc ++ [M]) (kj + 1)) := Lib.hid (by have h := hG2.out; rw [← hM.out]; simpa using h)
       clear hgrow hown
       go_wp2_with fail
       clear hkw hkw2 hjw hjw2
       go_roundg (ts.length - (kj + 1))
       case measure => have := hgm.out; (try have := hkj.out); omega
       case rel => exact ⟨kj + 1, acc ++ [M], by go_num, Lib.hid rfl, hnl, hGM, Lib.hid (by rw [List.length_append, List.length_singleton]; have := hal.out; (try have := hkj.out); omega), Lib.hid (by rw [List.length_append]; exact hown'), HB⟩
     ·have c2' : ((tk ts kj).kind == 2) = false := by simpa using c2
      have c2'' : ((tk ts kj).kind != 2) = true := by simpa using c2
      have hwT : Hid (wholeT (tk ts kj) = none) := Lib.hid (by unfold wholeT; rw [if_neg c2])
      replace c2 := Lib.hid c2
      generalize (tk ts kj).kind = KJ at p0 c2' c2''
      have hX : Hid (D = .error kj) := Lib.hid (hBad.out _ (num_no hmn.out (by rw [if_pos rfl]; exact hkj.out) (hwT.out)))
      go_wp2_with fail
      exact bodyPost_ret (v := .tuple #[.slice none 0 0, .int .i64 ((kj : Nat) : Int), .bool false]) (by simp [results, Tryz.results63, go_sem]) rfl (NumE.bad hX.out HB.out)
    ·have em := str_ne cm
     rw [show (⟨#[45]⟩ : ByteArray).toList = [45] by simp] at em
     have hmn : Hid (minusT (tk ts k) = false) := Lib.hid (by
      unfold minusT
      rw [decide_eq_false (p := (tk ts k).text = [45]) (fun e => cm (by_inj (by rw [hXS, e]))), Bool.and_false])
     have hwT : Hid (wholeT (tk ts k) = none) := Lib.hid (by unfold wholeT; rw [if_neg (by rw [c3]; decide)])
     rw [c3] at x0
     replace c3 := Lib.hid c3
     clear hXS cm
     have hX : Hid (D = .error k) := Lib.hid (hBad.out _ (num_no hmn.out (by simp) (hwT.out)))
     go_wp2_with fail
     exact bodyPost_ret (v := .tuple #[.slice none 0 0, .int .i64 ((k : Nat) : Int), .bool false]) (by simp [results, Tryz.results63, go_sem]) rfl (NumE.bad hX.out HB.out)
   ·have hmn : Hid (minusT (tk ts k) = false) := Lib.hid (by unfold minusT; rw [decide_eq_false c3, Bool.false_and])
    by_cases c2 : (tk ts k).kind = 2
    ·have hk2 := Lib.hid c2
     have hXl := hE.out.txt k hkn
     rw [c2] at x0
     have hXJ := hXS
     replace c3 := Lib.hid c3
     obtain ⟨XJ, hXe⟩ : ∃ XJ, XS = XJ := ⟨_, rfl⟩
     subst hXe
     clear c2 hXS
     obtain ⟨o, ho⟩ : ∃ o, intO (by_ XS) = o := ⟨_, rfl⟩
     have hWh := whole_v XS (by have h : (by_ XS).length = XS.size := rfl; have := hXl; rw [← hXJ, h] at this; exact this) wr
     rw [ho] at hWh
     replace hWh := Lib.hid hWh
     clear hXl
     go_wp2_with fail
     refine hWh.out.mono ?_
     rintro e w1 ⟨⟨N, rfl, hN⟩, rfl⟩
     cases o with
     | none =>
      have hwT : wholeT (tk ts k) = none := by unfold wholeT; rw [if_pos hk2.out, ← hXJ, ho]
      have hX : Hid (D = .error k) := Lib.hid (hBad.out _ (num_no hmn.out (by simp) (hwT)))
      clear hwT ho hXJ hN hWh
      go_wp2_with fail
      exact bodyPost_ret (v := .tuple #[.slice none 0 0, .int .i64 ((k : Nat) : Int), .bool false]) (by simp [results, Tryz.results63, go_sem]) rfl (NumE.bad hX.out HB.out)
     | some m =>
      have hwT : wholeT (tk ts k) = some m := by unfold wholeT; rw [if_pos hk2.out, ← hXJ, ho]
      have hmb := (intO_val ho).2
      obtain rfl : N = (m : Int) := hN.out m rfl
      have hG2 := Lib.hid (hGo.out _ _ (num_yes hmn.out (by simp) hwT))
      have hnl := num_lt hE.out hkn (num_yes hmn.out (j := k) (by simp) hwT)
      clear hwT ho hXJ hN hWh hlt hlt' hgo
      (try clear hge)
      (try clear p0 p1)
      clear x0 x1
      have hjw : IntKind.i64.wrap (((k : Nat) : Int) + 1) = ((k + 1 : Nat) : Int) := wrap_in (by omega)
      have hjw2 : wrap64 (((k : Nat) : Int) + 1) = ((k + 1 : Nat) : Int) := by
       have h0 := hjw
       simpa [IntKind.wrap_i64, wrap64] using h0
      go_upto_region 13 with fail
      obtain ⟨M, hM⟩ : ∃ M : Int, (m : Int) = M := ⟨_, rfl⟩
      rw [hM]
      replace hM := Lib.hid hM
      go_wp2_with (at_builtin; refine wpList_append_own _ rfl _ _ 54 rfl w.heap.size 3 iz (.int .i64 0) 1 8 Tryz.underlying54 hiz0 hiz1 hiz2 hiz3 rfl (by decide) _ _ _ rfl (World.ownsRow.alloc hown.out _) ⟨wr.heap.size, 0, none⟩ 1 1 [.int .i64 M] rfl rfl (new_at (At.new' rfl)) (by intro u hu; simp at hu; subst hu; rfl) (by unfold maxLen; omega) (by omega) (by have := HB.out.size; simp; omega) ?_)
      intro v' w2 hown' hgrow _
      replace HB := Lib.hid ((below_al HB.out _).grown hgrow (by have := HB.out.size; simp; omega) (fun q hq => by have := (hown.out.lt q hq).1; omega))
      rw [show acc.map (Value.int .i64 ·) ++ [Value.int .i64 M] = (acc ++ [M]).map (Value.int .i64 ·) by simp] at hown'
      have hGM : Hid (LnG ts least more D (acc ++ [M]) (k + 1)) := Lib.hid (by have h := hG2.out; rw [← hM.out]; simpa using h)
      clear hgrow hown
      go_wp2_with fail
      go_roundg (ts.length - (k + 1))
      case measure => have := hgm.out; (try have := hkj.out); omega
      case rel => exact ⟨k + 1, acc ++ [M], by go_num, Lib.hid rfl, hnl, hGM, Lib.hid (by rw [List.length_append, List.length_singleton]; have := hal.out; (try have := hkj.out); omega), Lib.hid (by rw [List.length_append]; exact hown'), HB⟩
    ·have c2' : ((tk ts k).kind == 2) = false := by simpa using c2
     have c2'' : ((tk ts k).kind != 2) = true := by simpa using c2
     have c3' : ((tk ts k).kind == 3) = false := by simpa using c3
     have hwT : Hid (wholeT (tk ts k) = none) := Lib.hid (by unfold wholeT; rw [if_neg c2])
     replace c2 := Lib.hid c2
     replace c3 := Lib.hid c3
     generalize (tk ts k).kind = KJ at x0 c2' c2'' c3'
     have hX : Hid (D = .error k) := Lib.hid (hBad.out _ (num_no hmn.out (by simp) (hwT.out)))
     go_wp2_with fail
     exact bodyPost_ret (v := .tuple #[.slice none 0 0, .int .i64 ((k : Nat) : Int), .bool false]) (by simp [results, Tryz.results63, go_sem]) rfl (NumE.bad hX.out HB.out)
  ·have hlt' : decide ((acc.length : Int) < (least : Int)) = false := decide_eq_false (by omega)
   have hge : least ≤ acc.length := by omega
   cases more with
   | false =>
    have hX : Hid (D = .ok (acc, k)) := Lib.hid (hG.out.stop hkn hge (by intro h; cases h))
    go_wp2_with fail
    exact bodyPost_ret (v := .tuple #[.slice ao acc.length cap, .int .i64 (k : Int), .bool true]) (by simp [results, Tryz.results63, go_sem]) rfl (NumE.good hX.out HB.out hown.out)
   | true =>
    by_cases c4 : (tk ts k).kind = 4
    ·rw [c4] at x0
     have c4h := Lib.hid c4
     clear c4
     have hX : Hid (D = .ok (acc, k)) := Lib.hid (hG.out.stop hkn hge (by exact fun _ => c4h.out))
     go_wp2_with fail
     exact bodyPost_ret (v := .tuple #[.slice ao acc.length cap, .int .i64 (k : Int), .bool true]) (by simp [results, Tryz.results63, go_sem]) rfl (NumE.good hX.out HB.out hown.out)
    ·have hgo : Hid (acc.length < least ∨ (Bool.true = Bool.true) ∧ (tk ts k).kind ≠ 4) := Lib.hid (.inr ⟨rfl, c4⟩)
     have c4' : ((tk ts k).kind != 4) = true := by simpa using c4
     have hBad : Hid (∀ e, numT ts k = .error e → D = .error e) := Lib.hid fun e h => hG.out.bad hkn hgo.out h
     have hGo : Hid (∀ n j, numT ts k = .ok (n, j) → LnG ts least true D (acc ++ [n]) j) := Lib.hid fun n j h => hG.out.go hkn hgo.out h
     replace c4 := Lib.hid c4
     by_cases c3 : (tk ts k).kind = 3
     ·by_cases cm : XS = ⟨#[45]⟩
      ·subst cm
       have hmn : Hid (minusT (tk ts k) = true) := Lib.hid (by unfold minusT; rw [c3, ← hXS]; rfl)
       obtain ⟨kj, hkj⟩ : ∃ kj, k + 1 = kj := ⟨_, rfl⟩
       have hk1 : kj < ts.length := by rw [← hkj]; exact hE.out.more k hkn (by rw [c3]; decide)
       obtain ⟨XJ, hXJ, p0, p1, -, -⟩ := tok_cells hT.out HB.out hk1
       have hXl := hE.out.txt kj hk1
       have hkw : IntKind.i64.wrap ((k : Int) + 1) = (kj : Int) := by rw [wrap_in (by omega)]; omega
       have hkw2 : wrap64 ((k : Int) + 1) = (kj : Int) := by simpa [IntKind.wrap_i64, wrap64] using hkw
       replace hkj := Lib.hid hkj
       clear c4'
       rw [c3] at x0
       replace c3 := Lib.hid c3
       clear hXS x2 x3
       by_cases c2 : (tk ts kj).kind = 2
       ·rw [c2] at p0
        have hk2 := Lib.hid c2
        clear c2
        obtain ⟨o, ho⟩ : ∃ o, intO (by_ XJ) = o := ⟨_, rfl⟩
        have hWh := whole_v XJ (by have h : (by_ XJ).length = XJ.size := rfl; have := hXl; rw [← hXJ, h] at this; exact this) wr
        rw [ho] at hWh
        replace hWh := Lib.hid hWh
        clear hXl
        go_wp2_with fail
        refine hWh.out.mono ?_
        rintro e w1 ⟨⟨N, rfl, hN⟩, rfl⟩
        cases o with
        | none =>
         have hwT : wholeT (tk ts kj) = none := by unfold wholeT; rw [if_pos hk2.out, ← hXJ, ho]
         have hX : Hid (D = .error kj) := Lib.hid (hBad.out _ (num_no hmn.out (by rw [if_pos rfl]; exact hkj.out) (hwT)))
         clear hwT ho hXJ hN hWh
         go_wp2_with fail
         exact bodyPost_ret (v := .tuple #[.slice none 0 0, .int .i64 ((kj : Nat) : Int), .bool false]) (by simp [results, Tryz.results63, go_sem]) rfl (NumE.bad hX.out HB.out)
        | some m =>
         have hwT : wholeT (tk ts kj) = some m := by unfold wholeT; rw [if_pos hk2.out, ← hXJ, ho]
         have hmb := (intO_val ho).2
         obtain rfl : N = (m : Int) := hN.out m rfl
         have hG2 := Lib.hid (hGo.out _ _ (num_yes hmn.out (by rw [if_pos rfl]; exact hkj.out) hwT))
         have hnl := num_lt hE.out hkn (num_yes hmn.out (j := kj) (by rw [if_pos rfl]; exact hkj.out) hwT)
         have hsub : IntKind.i64.wrap ((0 : Int) - (m : Int)) = -(m : Int) := by rw [wrap_in (by omega)]; omega
         clear hwT ho hXJ hN hWh hlt hlt' hgo
         (try clear hge)
         (try clear p0 p1)
         clear x0 x1
         have hjw : IntKind.i64.wrap (((kj : Nat) : Int) + 1) = ((kj + 1 : Nat) : Int) := wrap_in (by omega)
         have hjw2 : wrap64 (((kj : Nat) : Int) + 1) = ((kj + 1 : Nat) : Int) := by
          have h0 := hjw
          simpa [IntKind.wrap_i64, wrap64] using h0
         obtain ⟨M, hM⟩ : ∃ M : Int, (-(m : Int)) = M := ⟨_, rfl⟩
         rw [hM] at hsub
         replace hM := Lib.hid hM
         go_upto_region 12 with fail
         go_cut [13] from 15 to 74 (fun v wn => v = .int .i64 M ∧ wr = wn)
         case first =>
          clear hG2 hnl hjw hjw2
          go_wp2_with fail
          go_meet
          exact ⟨by first | rfl | rw [hM.out], rfl⟩
         obtain ⟨rfl, rfl⟩ := hcut
         clear hsub
         go_wp2_with (at_builtin; refine wpList_append_own _ rfl _ _ 54 rfl w.heap.size 3 iz (.int .i64 0) 1 8 Tryz.underlying54 hiz0 hiz1 hiz2 hiz3 rfl (by decide) _ _ _ rfl (World.ownsRow.alloc hown.out _) ⟨wr.heap.size, 0, none⟩ 1 1 [.int .i64 M] rfl rfl (new_at (At.new' rfl)) (by intro u hu; simp at hu; subst hu; rfl) (by unfold maxLen; omega) (by omega) (by have := HB.out.size; simp; omega) ?_)
         intro v' w2 hown' hgrow _
         replace HB := Lib.hid ((below_al HB.out _).grown hgrow (by have := HB.out.size; simp; omega) (fun q hq => by have := (hown.out.lt q hq).1; omega))
         rw [show acc.map (Value.int .i64 ·) ++ [Value.int .i64 M] = (acc ++ [M]).map (Value.int .i64 ·) by simp] at hown'
         have hGM : Hid (LnG ts least true D (acc ++ [M]) (kj + 1)) := Lib.hid (by have h := hG2.out; rw [← hM.out]; simpa using h)
         clear hgrow hown
         go_wp2_with fail
         clear hkw hkw2 hjw hjw2
         go_roundg (ts.length - (kj + 1))
         case measure => have := hgm.out; (try have := hkj.out); omega
         case rel => exact ⟨kj + 1, acc ++ [M], by go_num, Lib.hid rfl, hnl, hGM, Lib.hid (by rw [List.length_append, List.length_singleton]; have := hal.out; (try have := hkj.out); omega), Lib.hid (by rw [List.length_append]; exact hown'), HB⟩
       ·have c2' : ((tk ts kj).kind == 2) = false := by simpa using c2
        have c2'' : ((tk ts kj).kind != 2) = true := by simpa using c2
        have hwT : Hid (wholeT (tk ts kj) = none) := Lib.hid (by unfold wholeT; rw [if_neg c2])
        replace c2 := Lib.hid c2
        generalize (tk ts kj).kind = KJ at p0 c2' c2''
        have hX : Hid (D = .error kj) := Lib.hid (hBad.out _ (num_no hmn.out (by rw [if_pos rfl]; exact hkj.out) (hwT.out)))
        go_wp2_with fail
        exact bodyPost_ret (v := .tuple #[.slice none 0 0, .int .i64 ((kj : Nat) : Int), .bool false]) (by simp [results, Tryz.results63, go_sem]) rfl (NumE.bad hX.out HB.out)
      ·have em := str_ne cm
       rw [show (⟨#[45]⟩ : ByteArray).toList = [45] by simp] at em
       have hmn : Hid (minusT (tk ts k) = false) := Lib.hid (by
        unfold minusT
        rw [decide_eq_false (p := (tk ts k).text = [45]) (fun e => cm (by_inj (by rw [hXS, e]))), Bool.and_false])
       have hwT : Hid (wholeT (tk ts k) = none) := Lib.hid (by unfold wholeT; rw [if_neg (by rw [c3]; decide)])
       clear c4'
       rw [c3] at x0
       replace c3 := Lib.hid c3
       clear hXS cm
       have hX : Hid (D = .error k) := Lib.hid (hBad.out _ (num_no hmn.out (by simp) (hwT.out)))
       go_wp2_with fail
       exact bodyPost_ret (v := .tuple #[.slice none 0 0, .int .i64 ((k : Nat) : Int), .bool false]) (by simp [results, Tryz.results63, go_sem]) rfl (NumE.bad hX.out HB.out)
     ·have hmn : Hid (minusT (tk ts k) = false) := Lib.hid (by unfold minusT; rw [decide_eq_false c3, Bool.false_and])
      by_cases c2 : (tk ts k).kind = 2
      ·have hk2 := Lib.hid c2
       have hXl := hE.out.txt k hkn
       clear c4'
       rw [c2] at x0
       have hXJ := hXS
       replace c3 := Lib.hid c3
       obtain ⟨XJ, hXe⟩ : ∃ XJ, XS = XJ := ⟨_, rfl⟩
       subst hXe
       clear c2 hXS
       obtain ⟨o, ho⟩ : ∃ o, intO (by_ XS) = o := ⟨_, rfl⟩
       have hWh := whole_v XS (by have h : (by_ XS).length = XS.size := rfl; have := hXl; rw [← hXJ, h] at this; exact this) wr
       rw [ho] at hWh
       replace hWh := Lib.hid hWh
       clear hXl
       go_wp2_with fail
       refine hWh.out.mono ?_
       rintro e w1 ⟨⟨N, rfl, hN⟩, rfl⟩
       cases o with
       | none =>
        have hwT : wholeT (tk ts k) = none := by unfold wholeT; rw [if_pos hk2.out, ← hXJ, ho]
        have hX : Hid (D = .error k) := Lib.hid (hBad.out _ (num_no hmn.out (by simp) (hwT)))
        clear hwT ho hXJ hN hWh
        go_wp2_with fail
        exact bodyPost_ret (v := .tuple #[.slice none 0 0, .int .i64 ((k : Nat) : Int), .bool false]) (by simp [results, Tryz.results63, go_sem]) rfl (NumE.bad hX.out HB.out)
       | some m =>
        have hwT : wholeT (tk ts k) = some m := by unfold wholeT; rw [if_pos hk2.out, ← hXJ, ho]
        have hmb := (intO_val ho).2
        obtain rfl : N = (m : Int) := hN.out m rfl
        have hG2 := Lib.hid (hGo.out _ _ (num_yes hmn.out (by simp) hwT))
        have hnl := num_lt hE.out hkn (num_yes hmn.out (j := k) (by simp) hwT)
        clear hwT ho hXJ hN hWh hlt hlt' hgo
        (try clear hge)
        (try clear p0 p1)
        clear x0 x1
        have hjw : IntKind.i64.wrap (((k : Nat) : Int) + 1) = ((k + 1 : Nat) : Int) := wrap_in (by omega)
        have hjw2 : wrap64 (((k : Nat) : Int) + 1) = ((k + 1 : Nat) : Int) := by
         have h0 := hjw
         simpa [IntKind.wrap_i64, wrap64] using h0
        go_upto_region 13 with fail
        obtain ⟨M, hM⟩ : ∃ M : Int, (m : Int) = M := ⟨_, rfl⟩
        rw [hM]
        replace hM := Lib.hid hM
        go_wp2_with (at_builtin; refine wpList_append_own _ rfl _ _ 54 rfl w.heap.size 3 iz (.int .i64 0) 1 8 Tryz.underlying54 hiz0 hiz1 hiz2 hiz3 rfl (by decide) _ _ _ rfl (World.ownsRow.alloc hown.out _) ⟨wr.heap.size, 0, none⟩ 1 1 [.int .i64 M] rfl rfl (new_at (At.new' rfl)) (by intro u hu; simp at hu; subst hu; rfl) (by unfold maxLen; omega) (by omega) (by have := HB.out.size; simp; omega) ?_)
        intro v' w2 hown' hgrow _
        replace HB := Lib.hid ((below_al HB.out _).grown hgrow (by have := HB.out.size; simp; omega) (fun q hq => by have := (hown.out.lt q hq).1; omega))
        rw [show acc.map (Value.int .i64 ·) ++ [Value.int .i64 M] = (acc ++ [M]).map (Value.int .i64 ·) by simp] at hown'
        have hGM : Hid (LnG ts least true D (acc ++ [M]) (k + 1)) := Lib.hid (by have h := hG2.out; rw [← hM.out]; simpa using h)
        clear hgrow hown
        go_wp2_with fail
        go_roundg (ts.length - (k + 1))
        case measure => have := hgm.out; (try have := hkj.out); omega
        case rel => exact ⟨k + 1, acc ++ [M], by go_num, Lib.hid rfl, hnl, hGM, Lib.hid (by rw [List.length_append, List.length_singleton]; have := hal.out; (try have := hkj.out); omega), Lib.hid (by rw [List.length_append]; exact hown'), HB⟩
      ·have c2' : ((tk ts k).kind == 2) = false := by simpa using c2
       have c2'' : ((tk ts k).kind != 2) = true := by simpa using c2
       have c3' : ((tk ts k).kind == 3) = false := by simpa using c3
       have hwT : Hid (wholeT (tk ts k) = none) := Lib.hid (by unfold wholeT; rw [if_neg c2])
       replace c2 := Lib.hid c2
       replace c3 := Lib.hid c3
       generalize (tk ts k).kind = KJ at x0 c2' c2'' c3' c4'
       have hX : Hid (D = .error k) := Lib.hid (hBad.out _ (num_no hmn.out (by simp) (hwT.out)))
       go_wp2_with fail
       exact bodyPost_ret (v := .tuple #[.slice none 0 0, .int .i64 ((k : Nat) : Int), .bool false]) (by simp [results, Tryz.results63, go_sem]) rfl (NumE.bad hX.out HB.out)
end Go.Proofs.YtccakklnbhcbdaaGreatDoor
