import Derived.Test.YtccakklnbhcbdaaGreatDoorRQe
import Derived.Test.YtccakklnbhcbdaaGreatDoorRShelf
import Derived.Test.YtccakklnbhcbdaaGreatDoorRQk
import Derived.Test.YtccakklnbhcbdaaGreatDoorRA
set_option linter.unusedVariables false
namespace Go.Proofs.YtccakklnbhcbdaaGreatDoor
open Go.ChangeShapes Go.WideShapes Go.ChangeAt Go.RowKit Go.Shelf
theorem getD_str {l : List ByteArray} {b off : Nat} {B : Nat} {w : World} (h : RowAt encS 1 B w (some ⟨b, off, none⟩) l) : ∀ j, j < l.length → w.cell? ⟨b, off + j, none⟩ = some (.string (l.getD j ByteArray.empty)) := by
 intro j hj
 obtain ⟨b', off', e, hc, _⟩ := h.one (f := fun s => .string s) j hj
 simp only [Option.some.injEq, Addr.mk.injEq, and_true] at e
 obtain ⟨rfl, rfl⟩ := e
 rw [hc]
 simp [List.getD, hj]
theorem eqS_any (l1 l2 : List ByteArray) (v1 v2 : Value) (w : World) (h1 : l1.length ≤ 10000000) (h2 : l2.length ≤ 10000000) (r1 : IsS l1 v1 w) (r2 : IsS l2 v2 w) :
  Calls Tryz.prog 22 #[v1, v2] w fun e w' => e = .returned (.bool (decide (l1 = l2))) ∧ Below w.heap.size w w' := by
 obtain ⟨a1, c1, rfl, _, _, r1⟩ := r1
 obtain ⟨a2, c2, rfl, _, _, r2⟩ := r2
 by_cases e1 : l1.length = 0
 ·obtain rfl := List.length_eq_zero_iff.1 e1
  refine (Tryz.slices_Equal_string_empty a1 a2 c1 l2.length c2 w (by omega)).mono ?_
  rintro e w' ⟨rfl, rfl⟩
  refine ⟨?_, Below.refl _ _⟩
  rw [show decide (l2.length = 0) = decide ([] = l2) from decide_eq_decide.2 (by rw [List.length_eq_zero_iff]; exact eq_comm)]
 ·by_cases e2 : l1.length = l2.length
  ·obtain ⟨b, off, rfl, _⟩ := r1 0 (by omega)
   obtain ⟨b', off', rfl, _⟩ := r2 0 (by omega)
   refine (Tryz.slices_Equal_string b off l1.length c1 b' off' l2.length c2 l1 l2 w (Nat.le_refl _) (Nat.le_refl _) (by omega) (by omega) (getD_str r1) (getD_str r2)).mono ?_
   rintro e w' ⟨rfl, q, rfl⟩
   refine ⟨?_, below_drewN (Below.refl _ _) _⟩
   rw [List.take_length, List.take_length]
  ·refine (Tryz.slices_Equal_string_lens a1 a2 l1.length c1 l2.length c2 w e2).mono ?_
   rintro e w' ⟨rfl, rfl⟩
   refine ⟨?_, Below.refl _ _⟩
   rw [decide_eq_false (fun h => e2 (by rw [h]))]
end Go.Proofs.YtccakklnbhcbdaaGreatDoor
set_option linter.unusedVariables false
set_option linter.unusedSimpArgs false
namespace Go.Proofs.YtccakklnbhcbdaaGreatDoor
open Go.ChangeShapes Go.WideShapes Go.ChangeAt Go.RowKit
theorem lines_few {ts : List Tk} (hE : Ends ts) : ∀ (f : Nat) (s s' : Rd), linesT ts f s = .ok s' → s.i < ts.length → manyD s.d ≤ s.i → manyD s'.d ≤ 1000000
 | 0, s, s', h, hi, hm => by
  rw [linesT] at h
  injection h with h
  have := hE.len
  subst h
  omega
 | f + 1, s, s', h, hi, hm => by
  rw [linesT] at h
  split at h
  ·injection h with h
   have := hE.len
   subst h
   omega
  ·split at h
   ·cases h
   ·rename_i s1 h1
    obtain ⟨u1, u2, u3⟩ := other_up hE hi h1 hm
    exact lines_few hE f s1 s' h u2 u3
theorem readS_few (l : List UInt8) : manyD (readS l).1 ≤ 1000000 := by
 by_cases h0 : (tokS l).2.2 = 0
 ·obtain ⟨hE, hpos, -, -⟩ := tokS_ends h0
  cases hr : readT (tokS l).1 with
  | error j => rw [readS_err h0 hr]; exact Nat.zero_le _
  | ok d =>
   rw [readS_ok h0 hr]
   generalize (tokS l).1 = ts at *
   have hi0 := (skip_lt hE ts.length 0 hpos).2
   by_cases hy : (tk ts (skipT ts ts.length 0)).kind = 1 ∧ (tk ts (skipT ts ts.length 0)).text = wMember
   ·rw [readT_yes hy] at hr
    have hi1 := hE.more _ hi0 (by rw [hy.1]; decide)
    cases hb : bodyT ts wMember ⟨skipT ts ts.length 0, det0, false⟩ with
    | error e => rw [hb] at hr; cases hr
    | ok s =>
     rw [hb] at hr
     have hu := body_up hE (s := ⟨skipT ts ts.length 0, det0, false⟩) hi1 hb (Nat.zero_le _)
     have hr : linesR (linesT ts ts.length s) = .ok d := hr
     cases hl : linesT ts ts.length s with
     | error e => rw [hl] at hr; cases hr
     | ok s' =>
      rw [hl] at hr
      have := lines_few hE _ _ _ hl hu.2.1 hu.2.2
      have hr : (if s'.ruled then Except.ok s'.d else .error s'.i) = .ok d := hr
      split at hr
      ·injection hr with hr
       exact hr ▸ this
      ·cases hr
   ·rw [readT_no hy] at hr
    cases hr
 ·rw [readS_of_tok h0]
  exact Nat.zero_le _
def marksD (d : Det) : List ByteArray := d.bars.map fun b => ⟨b.1.toArray⟩
def namesD (d : Det) : List ByteArray := d.dems.map fun b => ⟨b.1.toArray⟩
def NamesE (R : Det × (Int × Int) × Int) (w : World) (e : Ending) (w' : World) : Prop :=
 ∃ v1 v2, e = .returned (.tuple #[v1, v2, .agg #[.int .i64 R.2.1.1, .int .i64 R.2.1.2], .int .i64 R.2.2]) ∧ IsS (marksD R.1) v1 w' ∧ IsS (namesD R.1) v2 w' ∧ Below w.heap.size w w'
theorem NamesE.mk {d : Det} {L C E : Int} {w w' : World} {v1 v2 : Value} (h1 : IsS (marksD d) v1 w') (h2 : IsS (namesD d) v2 w') (hb : Below w.heap.size w w') : NamesE (d, (L, C), E) w (.returned (.tuple #[v1, v2, .agg #[.int .i64 L, .int .i64 C], .int .i64 E])) w' := ⟨v1, v2, rfl, h1, h2, hb⟩
theorem isS_nil (w : World) : IsS [] (.slice none 0 0) w := ⟨none, 0, rfl, Nat.le_refl _, Nat.zero_le _, RowAt.nil _ _⟩
def IsSlc (v : Value) : Prop := ∃ a n c, v = .slice a n c
theorem grown_z {a w w5 : World} {Z n : Nat} {e : TypeId} {sz : Nat} {v : Value} {xs : List Value} (hZ : a.heap.size = Z) (h : Below Z a w) (ho : w.ownsRow Z e sz v n xs) (hg : w.grownBy w5 v.ownBlock) : Below Z a w5 := by
 subst hZ
 exact below_grown h hg fun b hb => (own_lt ho hb).2
theorem setCell_self2 {w : World} {B : Nat} {t : TypeId} (h : At w B t #[.int .i64 0, .int .i64 0]) : (w.setCell ⟨B, 0, none⟩ (.int .i64 0)).setCell ⟨B, 1, none⟩ (.int .i64 0) = w := by
 rw [At.setSelf (j := 0) (v := .int .i64 0) h rfl, At.setSelf (j := 1) (v := .int .i64 0) h rfl]
end Go.Proofs.YtccakklnbhcbdaaGreatDoor
set_option linter.unusedVariables false
set_option linter.unusedSimpArgs false
namespace Go.Proofs.YtccakklnbhcbdaaGreatDoor
open Go.ChangeShapes Go.WideShapes Go.ChangeAt Go.RowKit
theorem names_results (tmps : Array Value) (w : World) (B : Nat) (cp : Array Value) (v1 v2 r : Value) (h2 : tmps.getD 2 undef = v1) (h3 : tmps.getD 3 undef = v2) (h4 : tmps.getD 4 undef = .pointer (some ⟨B, 0, none⟩)) (h5 : tmps.getD 5 undef = r)
  (hP : At w B 43 cp) (sp : cp.size = 2) : (results Tryz.f20 tmps).run Tryz.prog w = .ok (.tuple #[v1, v2, .agg cp, r]) w := by
 have e2 := run_loadVar_row (P := Tryz.prog) w B 43 43 cp (0, 0) _ hP Tryz.underlying43 rfl (by rw [sp]; kernel_rfl)
 have h2' : tmps[2]?.getD undef = v1 := by simpa using h2
 have h3' : tmps[3]?.getD undef = v2 := by simpa using h3
 have h4' : tmps[4]?.getD undef = .pointer (some ⟨B, 0, none⟩) := by simpa using h4
 have h5' : tmps[5]?.getD undef = r := by simpa using h5
 simp [results, Tryz.results20, h2', h3', h4', h5', asAddr, e2]
set_option maxRecDepth 100000 in
set_option maxHeartbeats 2000000 in
theorem names_any (S : ByteArray) (w : World) (he : Env w) : Calls Tryz.prog 20 #[.string S] w (NamesE (readS (by_ S)) w) := by
 go_enter Tryz.func20, Tryz.ntmps20
 go_upto_region 1 with fail
 generalize hW0 : World.alloc w _ = W0
 have kP0 : At W0 w.heap.size 43 #[.int .i64 0, .int .i64 0] := by rw [← hW0]; exact At.new' rfl
 have HB0 : Below w.heap.size w W0 := by rw [← hW0]; exact below_al (Below.refl _ _) _
 clear hW0
 have HR := Lib.hid (read_any S W0 (he.bel HB0))
 obtain ⟨B, hB⟩ : ∃ B, w.heap.size = B := ⟨_, rfl⟩
 rw [hB] at kP0 HB0
 obtain ⟨i0, hi, hz0, hz1, hz2⟩ := info_parts infoStr
 go_wp2_with fail
 refine HR.out.mono ?_
 rintro e w1 ⟨p, rfl, hV, hy, HB1⟩
 have kP1 := kP0.bel HB1
 have HBw := Lib.hid (HB0.trans (HB1.mono (by have := kP0.lt; omega)))
 have hbad : Hid ((readS (by_ S)).2.2 ≠ 0 → (readS (by_ S)).1 = det0) := Lib.hid (readS_bad _)
 have hpos0 : Hid ((readS (by_ S)).2.2 = 0 → (readS (by_ S)).2.1 = (0, 0)) := Lib.hid (readS_pos _)
 have hfew : Hid (manyD (readS (by_ S)).1 ≤ 1000000) := Lib.hid (readS_few _)
 have h1c := detC_one hV
 have hsz := detC_size (readS (by_ S)).1 p
 have hDV := Lib.hid hV.view
 have hPl := kP1.lt
 clear HR hV hy HB1 kP0 HB0 he
 obtain ⟨X, hX⟩ : ∃ X, w1.heap.size = X := ⟨_, rfl⟩
 have hRow : Hid (∀ W9, ((w1.alloc (.cells zeroD 34)).alloc (.cells #[.int .i64 0, .int .i64 0] 43)).setRow X (detC (readS (by_ S)).1 p) = W9 → At W9 X 34 (detC (readS (by_ S)).1 p) ∧ At W9 (X + 1) 43 #[.int .i64 0, .int .i64 0] ∧ At W9 B 43 #[.int .i64 0, .int .i64 0] ∧ Hid (Below X w1 W9)) := Lib.hid fun W9 e => by
  have a0 : At ((w1.alloc (.cells zeroD 34)).alloc (.cells #[.int .i64 0, .int .i64 0] 43)) X 34 zeroD := (At.new' hX.symm).al _
  have a1 : At ((w1.alloc (.cells zeroD 34)).alloc (.cells #[.int .i64 0, .int .i64 0] 43)) (X + 1) 43 #[.int .i64 0, .int .i64 0] := At.new' (by simp [hX])
  rw [← e]
  refine ⟨a0.rowAt, a1.row (by omega), ((kP1.al _).al _).row (by omega), Lib.hid (below_row ?_ (Nat.le_refl X) _)⟩
  rw [← hX]
  exact below_al (below_al (Below.refl _ _) _) _
 have hz0' : Hid (At ((w1.alloc (.cells zeroD 34)).alloc (.cells #[.int .i64 0, .int .i64 0] 43)) X 34 zeroD) := Lib.hid ((At.new' hX.symm).al _)
 generalize readS (by_ S) = RS at *
 obtain ⟨d, ⟨L, C⟩, E⟩ := RS
 dsimp only at *
 go_upto_region 2 with (first | (refine wpList_store_row rfl 34 (.tmp 6) (.tmp 18) rfl X (detC d p) (by simp [Act.eval, hX]) (by simp [Act.eval]) 34 zeroD hz0'.out (by rw [hsz]; kernel_rfl) (by rw [hsz]; rfl) h1c ?_; generalize hW9 : World.setRow _ _ _ = W9; obtain ⟨kX, kQ, kP, hb9⟩ := hRow.out W9 hW9; have y0 : W9.cell? ⟨X + 1, 0, none⟩ = some (.int .i64 0) := kQ.c 0; have y1 : W9.cell? ⟨X + 1, 1, none⟩ = some (.int .i64 0) := kQ.c 1; have yf0 : W9.frozen? ⟨X + 1, 0, none⟩ = false := kQ.f 0; have yf1 : W9.frozen? ⟨X + 1, 1, none⟩ = false := kQ.f 1) | fail)
 generalize hW2 : World.setCell (World.setCell W9 _ _) _ _ = W2
 have kX2 : At W2 X 34 (detC d p) := by rw [← hW2]; exact (kX.ne ⟨X + 1, 0, none⟩ _ (by simp)).ne ⟨X + 1, 1, none⟩ _ (by simp)
 have kP2 : At W2 B 43 #[.int .i64 0, .int .i64 0] := by rw [← hW2]; exact (kP.ne ⟨X + 1, 0, none⟩ _ (by dsimp only; omega)).ne ⟨X + 1, 1, none⟩ _ (by dsimp only; omega)
 have kQ2 : At W2 (X + 1) 43 #[.int .i64 L, .int .i64 C] := by
  rw [← hW2]
  have := (kQ.put 0 (.int .i64 L)).put 1 (.int .i64 C)
  simpa using this
 have hb2 : Below X w1 W2 := by rw [← hW2]; exact below_sc (below_sc hb9.out (by omega) 0 _) (by omega) 1 _
 have hDV2 := Lib.hid (hDV.out.up (w' := W2) (by rw [hX]; exact hb2))
 have HB2 := Lib.hid (HBw.out.trans (hb2.mono (by omega)))
 have hXB : B < X := by omega
 have hXl := kQ2.lt
 clear hW2 hW9 kX kQ kP hb9 y0 y1 yf0 yf1 kP1 HBw hRow hz0' hDV hX hb2 hPl h1c hsz
 have p0 : W2.cell? ⟨B, 0, none⟩ = some (.int .i64 0) := kP2.c 0
 have p1 : W2.cell? ⟨B, 1, none⟩ = some (.int .i64 0) := kP2.c 1
 have pf0 : W2.frozen? ⟨B, 0, none⟩ = false := kP2.f 0
 have pf1 : W2.frozen? ⟨B, 1, none⟩ = false := kP2.f 1
 have q0 : W2.cell? ⟨X + 1, 0, none⟩ = some (.int .i64 L) := kQ2.c 0
 have q1 : W2.cell? ⟨X + 1, 1, none⟩ = some (.int .i64 C) := kQ2.c 1
 by_cases hE : E = 0
 rotate_left
 ·have hd := hbad.out hE
  have hne : (E != 0) = true := by simp [hE]
  have hFin : Hid (∀ tmps : Array Value, tmps.getD 2 undef = .slice none 0 0 → tmps.getD 3 undef = .slice none 0 0 → tmps.getD 4 undef = .pointer (some ⟨B, 0, none⟩) → tmps.getD 5 undef = .int .i64 E → (results Tryz.f20 tmps).run Tryz.prog (((W2.setCell ⟨B, 0, none⟩ (.int .i64 L)).setCell ⟨B, 1, none⟩ (.int .i64 C)).drew) = .ok (.tuple #[.slice none 0 0, .slice none 0 0, .agg #[.int .i64 L, .int .i64 C], .int .i64 E]) (((W2.setCell ⟨B, 0, none⟩ (.int .i64 L)).setCell ⟨B, 1, none⟩ (.int .i64 C)).drew)) := Lib.hid fun tmps h2 h3 h4 h5 =>
   names_results tmps _ B _ _ _ _ h2 h3 h4 h5 (At.drw (by
    have := (kP2.put 0 (.int .i64 L)).put 1 (.int .i64 C)
    simpa using this)) rfl
  have hPost : Hid (NamesE (d, (L, C), E) w (.returned (.tuple #[.slice none 0 0, .slice none 0 0, .agg #[.int .i64 L, .int .i64 C], .int .i64 E])) (((W2.setCell ⟨B, 0, none⟩ (.int .i64 L)).setCell ⟨B, 1, none⟩ (.int .i64 C)).drew)) := Lib.hid (NamesE.mk (by rw [hd]; exact isS_nil _) (by rw [hd]; exact isS_nil _) (by
   rw [hB]
   exact below_drew (below_sc (below_sc HB2.out (by omega) 0 _) (by omega) 1 _)))
  clear hd hbad hDV2 kX2 kP2 hfew hi hz0 hz1 hz2 hpos0 HB2
  go_wp2_with fail
  refine wp_region_noPanic ?_
  refine wp_region_held_drew (S := (fun W => At W (X + 1) 43 #[.int .i64 L, .int .i64 C])) (by kernel_rfl) ?_ (fun hHeld => ?_)
  ·(try dsimp only); (repeat (first | with_reducible assumption | with_reducible apply At.drw | (refine At.ne ?_ _ _ (by dsimp only; omega))))
  refine tak (i := 0) (v := ?_) (gt rfl) ?_ ?_
  rotate_left
  focus (intro w hSw; (try dsimp only at hSw); have z0 : w.cell? ⟨X + 1, 0, none⟩ = some (.int .i64 L) := hSw.c 0; have z1 : w.cell? ⟨X + 1, 1, none⟩ = some (.int .i64 C) := hSw.c 1; go_simp; first | done | with_reducible rfl)
  (try simp only [pu, pn, si, s0, sn])
  refine tak (i := 1) (v := ?_) (gt rfl) ?_ ?_
  rotate_left
  focus (intro w hSw; (try dsimp only at hSw); have z0 : w.cell? ⟨X + 1, 0, none⟩ = some (.int .i64 L) := hSw.c 0; have z1 : w.cell? ⟨X + 1, 1, none⟩ = some (.int .i64 C) := hSw.c 1; go_simp; first | done | with_reducible rfl)
  (try simp only [pu, pn, si, s0, sn])
  refine tak (i := 2) (v := ?_) (gt rfl) ?_ ?_
  rotate_left
  focus (intro w hSw; (try dsimp only at hSw); have z0 : w.cell? ⟨X + 1, 0, none⟩ = some (.int .i64 L) := hSw.c 0; have z1 : w.cell? ⟨X + 1, 1, none⟩ = some (.int .i64 C) := hSw.c 1; go_simp; first | done | with_reducible rfl)
  (try simp only [pu, pn, si, s0, sn])
  refine tak (i := 3) (v := ?_) (gt rfl) ?_ ?_
  rotate_left
  focus (intro w hSw; (try dsimp only at hSw); have z0 : w.cell? ⟨X + 1, 0, none⟩ = some (.int .i64 L) := hSw.c 0; have z1 : w.cell? ⟨X + 1, 1, none⟩ = some (.int .i64 C) := hSw.c 1; go_simp; first | done | with_reducible rfl)
  (try simp only [pu, pn, si, s0, sn])
  refine wpAnyH_ready (rs := [4]) (by kernel_rfl) (by simp) ?_
  refine AllReadyH.cons (i := 4) (gt rfl) (fun K hK => ?_) ?_
  ·go_simp
   refine hK.out _ _ ?_ (fun hHeld => ?_)
   ·(try dsimp only); (repeat (first | with_reducible assumption | with_reducible apply At.drw | (refine At.ne ?_ _ _ (by dsimp only; omega))))
   clear hK K
   (try simp only [pu, pn, si, s0, sn])
   refine wpAnyH_ready (rs := [5]) (by kernel_rfl) (by simp) ?_
   refine AllReadyH.cons (i := 5) (gt rfl) (fun K hK => ?_) ?_
   ·go_simp
    refine hK.out _ _ ?_ (fun hHeld => ?_)
    ·(try dsimp only); (repeat (first | with_reducible assumption | with_reducible apply At.drw | (refine At.ne ?_ _ _ (by dsimp only; omega))))
    clear hK K
    (try simp only [pu, pn, si, s0, sn])
    refine wpAnyH_done (by kernel_rfl) ?_ _
    refine NoPanic.normal ?_
    go_wp2_with fail
    exact bodyPost_ret (hFin.out _ rfl rfl rfl rfl) rfl hPost.out
   exact AllReadyH.nil
  exact AllReadyH.nil
 ·subst hE
  obtain ⟨rfl, rfl⟩ : L = 0 ∧ C = 0 := by
   have := hpos0.out rfl
   injection this with a b
   exact ⟨a, b⟩
  obtain ⟨Z, hZ⟩ : ∃ Z, W2.heap.size = Z := ⟨_, rfl⟩
  obtain ⟨ar, cr, er, -, -, hrow⟩ := hDV2.out.bars
  obtain ⟨ad, cd, ed, -, -, hdow⟩ := hDV2.out.dems
  have hzr : (d.bars.zip p.db).length = d.bars.length := by rw [List.length_zip, hDV2.out.nb]; simp
  have hzd : (d.dems.zip p.ds).length = d.dems.length := by rw [List.length_zip, hDV2.out.ns]; simp
  obtain ⟨nr, hnr⟩ : ∃ n, d.bars.length = n := ⟨_, rfl⟩
  obtain ⟨nd, hnd⟩ : ∃ n, d.dems.length = n := ⟨_, rfl⟩
  have hnr9 : nr ≤ 1000000 := by have := hfew.out; unfold manyD at this; omega
  have hnd9 : nd ≤ 1000000 := by have := hfew.out; unfold manyD at this; omega
  rw [hzr, hnr] at er
  rw [hzd, hnd] at ed
  have x6 : W2.cell? ⟨X, 6, none⟩ = some (.slice ar nr cr) := by
   have := kX2.c 6
   rw [← er]
   exact this
  have hx9 : Hid (∀ W, Below Z W2 W → W.cell? ⟨X, 9, none⟩ = some (.slice ad nd cd)) := Lib.hid fun W hb => by
   rw [← ed]
   exact (kX2.bel (by rw [hZ]; exact hb)).c 9
  have hPZ : Hid (∀ W, Below Z W2 W → At W B 43 #[.int .i64 0, .int .i64 0]) := Lib.hid fun W hb => kP2.bel (by rw [hZ]; exact hb)
  have hMr : Hid ((marksD d).length = nr) := Lib.hid (by unfold marksD; rw [List.length_map, hnr])
  have hMd : Hid ((namesD d).length = nd) := Lib.hid (by unfold namesD; rw [List.length_map, hnd])
  have hBar : Hid (∀ W k, Below Z W2 W → (hk : k < nr) → ∃ bb off NM e0 e1 e2 v4, ar = some ⟨bb, off, none⟩ ∧ (marksD d)[k]? = some NM ∧ W.cell? ⟨bb, off + k * 5, none⟩ = some (.string NM) ∧ W.cell? ⟨bb, off + k * 5 + 1, none⟩ = some (.int .i64 e0) ∧ W.cell? ⟨bb, off + k * 5 + 2, none⟩ = some (.int .i64 e1) ∧ W.cell? ⟨bb, off + k * 5 + 3, none⟩ = some (.int .i64 e2) ∧ W.cell? ⟨bb, off + k * 5 + 4, none⟩ = some v4 ∧ IsSlc v4) := Lib.hid fun W k hb hk => by
   have hbw : Below W2.heap.size W2 W := by rw [hZ]; exact hb
   obtain ⟨bb, off, e, hbl, hc⟩ := hrow k (by rw [hzr, hnr]; exact hk)
   rw [List.getElem_zip] at hc
   refine ⟨bb, off, ⟨(d.bars[k]'(by rw [hnr]; exact hk)).1.toArray⟩, _, _, _, p.db[k]'(by rw [hDV2.out.nb, hnr]; exact hk), e, ?_, (hbw.cell hbl).trans (hc 0 _ rfl), (hbw.cell hbl).trans (hc 1 _ rfl), (hbw.cell hbl).trans (hc 2 _ rfl), (hbw.cell hbl).trans (hc 3 _ rfl), (hbw.cell hbl).trans (hc 4 _ rfl), ?_⟩
   ·unfold marksD
    rw [List.getElem?_map, List.getElem?_eq_getElem (by rw [hnr]; exact hk)]
    rfl
   ·obtain ⟨a, c, q, _⟩ := hDV2.out.dims k (by rw [hnr]; exact hk) (by rw [hDV2.out.nb, hnr]; exact hk)
    exact ⟨_, _, _, q⟩
  have hDem : Hid (∀ W k, Below Z W2 W → (hk : k < nd) → ∃ bb off NM e0 e1 e2 e3 e4 e5 v4, ad = some ⟨bb, off, none⟩ ∧ (namesD d)[k]? = some NM ∧ W.cell? ⟨bb, off + k * 8, none⟩ = some (.string NM) ∧ W.cell? ⟨bb, off + k * 8 + 1, none⟩ = some (.int .i64 e0) ∧ W.cell? ⟨bb, off + k * 8 + 2, none⟩ = some (.int .i64 e1) ∧ W.cell? ⟨bb, off + k * 8 + 3, none⟩ = some (.int .i64 e2) ∧ W.cell? ⟨bb, off + k * 8 + 4, none⟩ = some (.int .i64 e3) ∧ W.cell? ⟨bb, off + k * 8 + 5, none⟩ = some (.int .i64 e4) ∧ W.cell? ⟨bb, off + k * 8 + 6, none⟩ = some (.int .i64 e5) ∧ W.cell? ⟨bb, off + k * 8 + 7, none⟩ = some v4 ∧ IsSlc v4) := Lib.hid fun W k hb hk => by
   have hbw : Below W2.heap.size W2 W := by rw [hZ]; exact hb
   obtain ⟨bb, off, e, hbl, hc⟩ := hdow k (by rw [hzd, hnd]; exact hk)
   rw [List.getElem_zip] at hc
   refine ⟨bb, off, ⟨(d.dems[k]'(by rw [hnd]; exact hk)).1.toArray⟩, _, _, _, _, _, _, p.ds[k]'(by rw [hDV2.out.ns, hnd]; exact hk), e, ?_, (hbw.cell hbl).trans (hc 0 _ rfl), (hbw.cell hbl).trans (hc 1 _ rfl), (hbw.cell hbl).trans (hc 2 _ rfl), (hbw.cell hbl).trans (hc 3 _ rfl), (hbw.cell hbl).trans (hc 4 _ rfl), (hbw.cell hbl).trans (hc 5 _ rfl), (hbw.cell hbl).trans (hc 6 _ rfl), (hbw.cell hbl).trans (hc 7 _ rfl), ?_⟩
   ·unfold namesD
    rw [List.getElem?_map, List.getElem?_eq_getElem (by rw [hnd]; exact hk)]
    rfl
   ·obtain ⟨a, c, q, _⟩ := hDV2.out.steps k (by rw [hnd]; exact hk) (by rw [hDV2.out.ns, hnd]; exact hk)
    exact ⟨_, _, _, q⟩
  replace hnr := Lib.hid hnr
  replace hnd := Lib.hid hnd
  clear er ed hrow hdow hzr hzd hDV2 kP2 kX2 kQ2 hfew hbad hpos0 q0 q1 p0 p1 pf0 pf1
  have hE1 : Hid (∀ v1 v2 W3, IsS (marksD d) v1 W3 → IsS (namesD d) v2 W3 → Below B w W3 → NamesE (d, (0, 0), 0) w (.returned (.tuple #[v1, v2, .agg #[.int .i64 0, .int .i64 0], .int .i64 0])) W3) := Lib.hid fun v1 v2 W3 h1 h2 hb => NamesE.mk h1 h2 (by rw [hB]; exact hb)
  generalize marksD d = mk at *
  generalize namesD d = dk at *
  go_wp2_with fail
  go_loopg [28, 9] nr (fun g i v wr => ∃ (k : Nat) (v0 : Value), v0 = v ∧ k ≤ nr ∧ i = .int .i64 (k : Int) ∧ Hid (g = nr - k) ∧ Hid (wr.ownsRow Z 9 1 v k ((mk.take k).flatMap encS)) ∧ Hid (Below Z W2 wr))
  case atStart => exact ⟨0, _, rfl, Nat.zero_le _, rfl, Lib.hid rfl, Lib.hid (World.ownsRow_nil _ _ _ _), Lib.hid (Below.refl _ _)⟩
  case round =>
   clear x6
   obtain ⟨k, v, rfl, hk, rfl, hg, ho, hb⟩ := hrel
   by_cases hlt : k < nr
   ·obtain ⟨bb, off, NM, e0, e1, e2, v4, rfl, hNM, q0, q1, q2, q3, q4, s1, s2, s3, rfl⟩ := hBar.out wr k hb.out hlt
    have hsuc : Hid ((mk.take (k + 1)).flatMap encS = (mk.take k).flatMap encS ++ [.string NM]) := Lib.hid (by
     have hkl : k < mk.length := by rw [hMr.out]; exact hlt
     rw [List.take_succ_eq_append_getElem hkl, List.flatMap_append, List.flatMap_singleton]
     rw [List.getElem?_eq_getElem hkl] at hNM
     injection hNM with hNM
     rw [hNM]
     rfl)
    clear hNM
    go_upto_region 8 with fail
    generalize hWW : World.alloc wr _ = W1
    have kb : At W1 wr.heap.size 56 #[.string NM, .int .i64 e0, .int .i64 e1, .int .i64 e2, .slice s1 s2 s3] := by rw [← hWW]; exact At.new' rfl
    have hB1 := Lib.hid (show Below Z W2 W1 by rw [← hWW, ← hZ]; exact below_al (by rw [hZ]; exact hb.out) _)
    have ho1 : Hid (W1.ownsRow Z 9 1 v k ((mk.take k).flatMap encS)) := Lib.hid (by rw [← hWW]; exact World.ownsRow.alloc ho.out _)
    have b0 : W1.cell? ⟨wr.heap.size, 0, none⟩ = some (.string NM) := kb.c 0
    clear hWW q0 q1 q2 q3 q4 kb hb ho
    have hZ1 := hB1.out.size
    rw [hZ] at hZ1
    go_wp2_with (at_builtin; refine wpList_append_own_at _ rfl _ _ 51 rfl Z 9 i0 (.string ⟨#[]⟩) 1 16 Tryz.underlying51 hi hz0 hz1 hz2 rfl (by decide) _ _ _ rfl (World.ownsRow.alloc ho1.out _) ⟨W1.heap.size, 0, none⟩ 1 1 [.string NM] rfl rfl (cell_one_new _ _ _) (by intro u hu; simp at hu; subst hu; rfl) (by unfold maxLen; omega) (by omega) (by simp; omega) ?_)
    intro v' w5 ho5 hg5 _ _
    have hb5 := Lib.hid (grown_z hZ hB1.out ho1.out ((World.grownBy_alloc _ _ _).trans hg5))
    have ho6 : Hid (w5.ownsRow Z 9 1 v' (k + 1) ((mk.take (k + 1)).flatMap encS)) := Lib.hid (by rw [hsuc.out]; exact ho5)
    clear ho5 hg5 hsuc ho1 hB1 hZ1 b0
    go_wp2_with fail
    go_roundg (nr - (k + 1))
    case measure => have := hg.out; omega
    case rel => exact ⟨k + 1, _, rfl, by omega, by go_num, Lib.hid rfl, ho6, hb5⟩
   ·have hkn : k = nr := by omega
    subst hkn
    have hS1 : Hid (∀ W, Below wr.heap.size wr W → IsS mk v W) := Lib.hid fun W hW => by
     have h1 := ho.out
     rw [List.take_of_length_le (by rw [hMr.out]; exact Nat.le_refl _), ← hMr.out] at h1
     exact (row_isS h1).up hW
    obtain ⟨wo, rfl⟩ : ∃ wo, wo = wr := ⟨_, rfl⟩
    have x9 := hx9.out wo hb.out
    clear ho hlt hBar hg hx9
    go_wp2_with fail
    go_loopg [41, 10] nd (fun g i v2 wr => ∃ (j : Nat) (v0 : Value), v0 = v2 ∧ j ≤ nd ∧ i = .int .i64 (j : Int) ∧ Hid (g = nd - j) ∧ Hid (wr.ownsRow wo.heap.size 9 1 v2 j ((dk.take j).flatMap encS)) ∧ Hid (Below wo.heap.size wo wr))
    case atStart => exact ⟨0, _, rfl, Nat.zero_le _, rfl, Lib.hid rfl, Lib.hid (World.ownsRow_nil _ _ _ _), Lib.hid (Below.refl _ _)⟩
    case round =>
     clear x9
     obtain ⟨j, v2, rfl, hk, rfl, hg, ho, hb3⟩ := hrel
     have hZr : Z ≤ wo.heap.size := by have := hb.out.size; omega
     have hb3Z := Lib.hid (show Below Z W2 wr from hb.out.trans (hb3.out.mono hZr))
     by_cases hlt : j < nd
     ·obtain ⟨bb, off, NM, e0, e1, e2, e3, e4, e5, v4, rfl, hNM, q0, q1, q2, q3, q4, q5, q6, q7, s1, s2, s3, rfl⟩ := hDem.out wr j hb3Z.out hlt
      have hsuc : Hid ((dk.take (j + 1)).flatMap encS = (dk.take j).flatMap encS ++ [.string NM]) := Lib.hid (by
       have hkl : j < dk.length := by rw [hMd.out]; exact hlt
       rw [List.take_succ_eq_append_getElem hkl, List.flatMap_append, List.flatMap_singleton]
       rw [List.getElem?_eq_getElem hkl] at hNM
       injection hNM with hNM
       rw [hNM]
       rfl)
      clear hNM hb3Z
      go_upto_region 13 with fail
      generalize hWW : World.alloc wr _ = W1
      have kb : At W1 wr.heap.size 63 #[.string NM, .int .i64 e0, .int .i64 e1, .int .i64 e2, .int .i64 e3, .int .i64 e4, .int .i64 e5, .slice s1 s2 s3] := by rw [← hWW]; exact At.new' rfl
      have hB1 := Lib.hid (show Below wo.heap.size wo W1 by rw [← hWW]; exact below_al hb3.out _)
      have ho1 : Hid (W1.ownsRow wo.heap.size 9 1 v2 j ((dk.take j).flatMap encS)) := Lib.hid (by rw [← hWW]; exact World.ownsRow.alloc ho.out _)
      have b0 : W1.cell? ⟨wr.heap.size, 0, none⟩ = some (.string NM) := kb.c 0
      clear hWW q0 q1 q2 q3 q4 q5 q6 q7 kb hb3 ho
      have hZ1 := hB1.out.size
      go_wp2_with (at_builtin; refine wpList_append_own_at _ rfl _ _ 51 rfl wo.heap.size 9 i0 (.string ⟨#[]⟩) 1 16 Tryz.underlying51 hi hz0 hz1 hz2 rfl (by decide) _ _ _ rfl (World.ownsRow.alloc ho1.out _) ⟨W1.heap.size, 0, none⟩ 1 1 [.string NM] rfl rfl (cell_one_new _ _ _) (by intro u hu; simp at hu; subst hu; rfl) (by unfold maxLen; omega) (by omega) (by simp; omega) ?_)
      intro v' w5 ho5 hg5 _ _
      have hb5 := Lib.hid (grown_z rfl hB1.out ho1.out ((World.grownBy_alloc _ _ _).trans hg5))
      have ho6 : Hid (w5.ownsRow wo.heap.size 9 1 v' (j + 1) ((dk.take (j + 1)).flatMap encS)) := Lib.hid (by rw [hsuc.out]; exact ho5)
      clear ho5 hg5 hsuc ho1 hB1 hZ1 b0
      go_wp2_with fail
      go_roundg (nd - (j + 1))
      case measure => have := hg.out; omega
      case rel => exact ⟨j + 1, _, rfl, by omega, by go_num, Lib.hid rfl, ho6, hb5⟩
     ·have hkn : j = nd := by omega
      subst hkn
      have hS2 : IsS dk v2 wr := by
       have h1 := ho.out
       rw [List.take_of_length_le (by rw [hMd.out]; exact Nat.le_refl _), ← hMd.out] at h1
       exact row_isS h1
      have kP := hPZ.out wr hb3Z.out
      have p0 : wr.cell? ⟨B, 0, none⟩ = some (.int .i64 0) := kP.c 0
      have p1 : wr.cell? ⟨B, 1, none⟩ = some (.int .i64 0) := kP.c 1
      have pf0 : wr.frozen? ⟨B, 0, none⟩ = false := kP.f 0
      have pf1 : wr.frozen? ⟨B, 1, none⟩ = false := kP.f 1
      have hfinW : Hid (∀ W3, (wr.setCell ⟨B, 0, none⟩ (.int .i64 0)).setCell ⟨B, 1, none⟩ (.int .i64 0) = W3 → W3 = wr) := Lib.hid fun W3 e => by
       rw [← e]
       exact setCell_self2 kP
      have hPost := Lib.hid (hE1.out v v2 wr (hS1.out wr hb3.out) hS2 (HB2.out.trans (hb3Z.out.mono (by omega))))
      have hFin : Hid (∀ tmps : Array Value, tmps.getD 2 undef = v → tmps.getD 3 undef = v2 → tmps.getD 4 undef = .pointer (some ⟨B, 0, none⟩) → tmps.getD 5 undef = .int .i64 0 → (results Tryz.f20 tmps).run Tryz.prog wr = .ok (.tuple #[v, v2, .agg #[.int .i64 0, .int .i64 0], .int .i64 0]) wr) := Lib.hid fun tmps h2 h3 h4 h5 => names_results tmps _ B _ _ _ _ h2 h3 h4 h5 kP rfl
      clear hS2 kP ho hS1 hb3 hb3Z hPZ hb HB2 hE1 hDem hMr hMd
      go_wp2_with fail
      generalize hW3 : World.setCell (World.setCell wr _ _) _ _ = W3
      obtain rfl := hfinW.out W3 hW3
      exact bodyPost_ret (hFin.out _ rfl rfl rfl rfl) rfl hPost.out
end Go.Proofs.YtccakklnbhcbdaaGreatDoor
