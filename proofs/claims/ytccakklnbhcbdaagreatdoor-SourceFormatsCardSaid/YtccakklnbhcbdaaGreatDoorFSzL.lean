import Derived.Test.YtccakklnbhcbdaaGreatDoorFSyX
import Derived.Test.YtccakklnbhcbdaaGreatDoorFSzK
import Derived.Test.YtccakklnbhcbdaaGreatDoorFQk
import Derived.Test.YtccakklnbhcbdaaGreatDoorFA
set_option linter.unusedVariables false
set_option linter.unusedSimpArgs false
namespace Go.Proofs.YtccakklnbhcbdaaGreatDoor
open Go.ChangeShapes Go.WideShapes Go.ChangeAt Go.RowKit
theorem rread_results (tmps : Array Value) (w : World) (B : Nat) (cx cp : Array Value) (r : Value) (h2 : tmps.getD 2 undef = .pointer (some ⟨B, 0, none⟩)) (h3 : tmps.getD 3 undef = .pointer (some ⟨B + 1, 0, none⟩)) (h4 : tmps.getD 4 undef = r)
  (hX : At w B 34 cx) (sx : cx.size = 19) (hP : At w (B + 1) 43 cp) (sp : cp.size = 2) : (results Tryz.f21 tmps).run Tryz.prog w = .ok (.tuple #[.agg cx, .agg cp, r]) w := by
 have e1 := run_loadVar_row (P := Tryz.prog) w B 34 34 cx (0, 0) _ hX Tryz.underlying34 rfl (by rw [sx]; kernel_rfl)
 have e2 := run_loadVar_row (P := Tryz.prog) w (B + 1) 43 43 cp (0, 0) _ hP Tryz.underlying43 rfl (by rw [sp]; kernel_rfl)
 have h2' : tmps[2]?.getD undef = .pointer (some ⟨B, 0, none⟩) := by simpa using h2
 have h3' : tmps[3]?.getD undef = .pointer (some ⟨B + 1, 0, none⟩) := by simpa using h3
 have h4' : tmps[4]?.getD undef = r := by simpa using h4
 simp [results, Tryz.results21, h2', h3', h4', asAddr, e1, e2]
theorem tokAt_block {w w' : World} {g : Nat} {ts : List Tk} (h : TokAt w (some ⟨g, 0, none⟩) ts) (hb : w'.heap[g]? = w.heap[g]?) : TokAt w' (some ⟨g, 0, none⟩) ts := fun k hk => by
 obtain ⟨g', e, c0, c1, c2, c3⟩ := h k hk
 have e2 : g = g' := by injection e with e; injection e
 subst e2
 exact ⟨g, rfl, (World.cell?_of_block hb).trans c0, (World.cell?_of_block hb).trans c1, (World.cell?_of_block hb).trans c2, (World.cell?_of_block hb).trans c3⟩
theorem tokS_pos {l : List UInt8} (h : (tokS l).2.2 = 0) : (tokS l).2.1 = (0, 0) := by
 unfold tokS at h ⊢
 by_cases hl : 262144 < l.length
 ·rw [if_pos hl] at h
  exact absurd h (by decide)
 ·rw [if_neg hl] at h ⊢
  rcases tokF_G l.length l 1 1 [] with ⟨ts, _, q2⟩ | ⟨_, q, q2⟩
  ·rw [q2]
  ·rw [q2] at h
   exact absurd (show (7 : Int) = 0 from h) (by decide)
theorem nums_up2 {ts : List Tk} : ∀ (k i : Nat) {l : List Int} {j : Nat}, numsT ts k i = .ok (l, j) → i + l.length ≤ j
 | 0, i, l, j, h => by
  rw [numsT] at h
  injection h with h
  injection h with h1 h2
  subst h1 h2
  exact Nat.le_refl _
 | k + 1, i, l, j, h => by
  rw [numsT] at h
  split at h
  ·cases h
  ·rename_i h1
   split at h
   ·cases h
   ·rename_i h2
    injection h with h
    injection h with h3 h4
    subst h3 h4
    have a := num_up h1
    have b := nums_up2 k _ h2
    rw [List.length_cons]
    omega
theorem dims_len {ts : List Tk} {w : List UInt8} {i : Nat} {l : List Int} {j : Nat} (h : lineT ts w i = .ok (l, j)) : l.length ≤ j := by
 unfold lineT at h
 split at h
 ·cases h
 ·rename_i l1 j1 h1
  have a := nums_up2 _ _ h1
  split at h
  ·split at h
   ·cases h
   ·rename_i l2 j2 h2
    injection h with h
    injection h with h3 h4
    subst h3 h4
    have b := dims_up _ _ h2
    rw [List.length_append]
    omega
  ·injection h with h
   injection h with h3 h4
   subst h3 h4
   omega
theorem wrap_next {k j n : Nat} (h : k + 1 = j) (hk : k < n) (hn : n ≤ 1000000) : IntKind.i64.wrap ((k : Int) + 1) = (j : Int) := by
 rw [wrap_in (by omega)]
 omega
theorem wrap_next2 {k j n : Nat} (h : k + 1 = j) (hk : k < n) (hn : n ≤ 1000000) : wrap64 ((k : Int) + 1) = (j : Int) := by
 have := wrap_next h hk hn
 simpa [IntKind.wrap_i64, wrap64] using this
theorem least_9 (w : List UInt8) : leastW w ≤ 9 := by
 unfold leastW
 repeat (first | (split; (focus (decide))) | split)
 all_goals decide
theorem str_eqb (XS : ByteArray) (l : List UInt8) : (XS.toList == l) = decide (by_ XS = l) := by
 have e : XS.toList = by_ XS := Lib.toList_data XS
 rw [e, Bool.eq_iff_iff]
 simp
set_option maxRecDepth 100000 in
set_option maxHeartbeats 8000000 in
theorem rread_any (S : ByteArray) (w : World) : Calls Tryz.prog 21 #[.string S] w (ReadE (by_ S) w) := by
 go_enter Tryz.func21, Tryz.ntmps21
 go_upto_region 1 with fail
 generalize hW0 : World.alloc (World.alloc w _) _ = W0
 have kB0 : At W0 w.heap.size 34 zeroD := by unfold zeroD; rw [← hW0]; exact (At.new' rfl).al _
 have kP0 : At W0 (w.heap.size + 1) 43 #[.int .i64 0, .int .i64 0] := by rw [← hW0]; exact At.new' (by simp)
 have HB0 : Below w.heap.size w W0 := by rw [← hW0]; exact below_al (below_al (Below.refl _ _) _) _
 clear hW0
 have HR := Lib.hid (rtok_any S W0)
 obtain ⟨B, hB⟩ : ∃ B, w.heap.size = B := ⟨_, rfl⟩
 rw [hB] at kB0 kP0 HB0 ⊢
 go_wp2_with fail
 refine HR.out.mono ?_
 rintro e w1 ⟨⟨v, rfl, hown⟩, HB1⟩
 have kB1 := kB0.bel HB1
 have kP1 := kP0.bel HB1
 have HBw := Lib.hid (HB0.trans (HB1.mono (by have := kP0.lt; omega)))
 have hPl := kP1.lt
 have hW0l := kP0.lt
 have hreadE := Lib.hid fun h0 : (tokS (by_ S)).2.2 ≠ 0 => readS_of_tok h0
 have hends := Lib.hid fun h0 : (tokS (by_ S)).2.2 = 0 => tokS_ends h0
 have hrerr := Lib.hid fun (h0 : (tokS (by_ S)).2.2 = 0) (j : Nat) (hr : readT (tokS (by_ S)).1 = .error j) => readS_err h0 hr
 have hrok := Lib.hid fun (h0 : (tokS (by_ S)).2.2 = 0) (d : Det) (hr : readT (tokS (by_ S)).1 = .ok d) => readS_ok h0 hr
 have htz : Hid ((tokS (by_ S)).2.2 = 0 → (tokS (by_ S)).2.1 = (0, 0)) := Lib.hid fun h => tokS_pos h
 clear HR kB0 kP0 HB0 HB1
 generalize tokS (by_ S) = TS at *
 obtain ⟨ts, ⟨TL, TC⟩, TE⟩ := TS
 dsimp only at *
 go_upto_region 2 with fail
 generalize hW2 : World.alloc w1 _ = W2
 obtain ⟨P6, hP6⟩ : ∃ P, w1.heap.size = P := ⟨_, rfl⟩
 have kQ2 : At W2 P6 43 #[.int .i64 TL, .int .i64 TC] := by rw [← hW2]; exact At.new' hP6.symm
 have hb2 : Below w1.heap.size w1 W2 := by rw [← hW2]; exact below_al (Below.refl _ _) _
 have kB2 := kB1.bel hb2
 have kP2 := kP1.bel hb2
 have hown2 := Lib.hid (World.ownsRow_up hown hb2)
 have HB2 := Lib.hid (HBw.out.trans (hb2.mono (by omega)))
 have hownl := Lib.hid fun (a : Nat) (e : v.ownBlock = some a) => (own_lt hown e)
 rw [hP6] at hPl ⊢
 clear hW2 kB1 kP1 HBw hb2 hown
 by_cases hE0 : TE = 0
 rotate_left
 ·have hne : (TE != 0) = true := by simpa using hE0
  have hRd := hreadE.out hE0
  have hFin : Hid (∀ tmps : Array Value, tmps.getD 2 undef = .pointer (some ⟨B, 0, none⟩) → tmps.getD 3 undef = .pointer (some ⟨B + 1, 0, none⟩) → tmps.getD 4 undef = .int .i64 TE → (results Tryz.f21 tmps).run Tryz.prog (((W2.setCell ⟨B + 1, 0, none⟩ (.int .i64 TL)).setCell ⟨B + 1, 1, none⟩ (.int .i64 TC)).drew) = .ok (.tuple #[.agg zeroD, .agg #[.int .i64 TL, .int .i64 TC], .int .i64 TE]) (((W2.setCell ⟨B + 1, 0, none⟩ (.int .i64 TL)).setCell ⟨B + 1, 1, none⟩ (.int .i64 TC)).drew)) := Lib.hid fun tmps h2 h3 h4 =>
   rread_results tmps _ B _ _ _ h2 h3 h4 ((kB2.ne ⟨B + 1, 0, none⟩ _ (by simp)).ne ⟨B + 1, 1, none⟩ _ (by simp)).drw rfl (At.drw (by
    have := (kP2.put 0 (.int .i64 TL)).put 1 (.int .i64 TC)
    simpa using this)) rfl
  have hPost : Hid (ReadE (by_ S) w (.returned (.tuple #[.agg zeroD, .agg #[.int .i64 TL, .int .i64 TC], .int .i64 TE])) (((W2.setCell ⟨B + 1, 0, none⟩ (.int .i64 TL)).setCell ⟨B + 1, 1, none⟩ (.int .i64 TC)).drew)) := Lib.hid ⟨nilP undef, by rw [hRd, detC_zero], by rw [hRd]; exact rdV_nil _ _, fun b hb => absurd hb (fp_nil _ b), by rw [hB]; exact below_drew (below_sc (below_sc HB2.out (by omega) 0 _) (by omega) 1 _)⟩
  have p0 : W2.cell? ⟨B + 1, 0, none⟩ = some (.int .i64 0) := kP2.c 0
  have p1 : W2.cell? ⟨B + 1, 1, none⟩ = some (.int .i64 0) := kP2.c 1
  have pf0 : W2.frozen? ⟨B + 1, 0, none⟩ = false := kP2.f 0
  have pf1 : W2.frozen? ⟨B + 1, 1, none⟩ = false := kP2.f 1
  have hP6B : P6 ≠ B + 1 := by omega
  clear hRd hreadE hends hrerr hrok htz hownl hown2 HB2 kP2
  go_wp2_with fail
  refine wp_region_noPanic ?_
  refine wp_region_held_drew (S := (fun W' => W'.heap[P6]? = W2.heap[P6]?)) (by kernel_rfl) ?_ (fun hHeld => ?_)
  ·(try dsimp only); (repeat (first | with_reducible assumption | rfl | (refine (Below.heap_setCell _ _ _ _ (by dsimp only; omega)).trans ?_)))
  refine tak (i := 0) (v := ?_) (gt rfl) ?_ ?_
  rotate_left
  focus (intro w_ hSw; (try dsimp only at hSw); have z0 : w_.cell? ⟨P6, 0, none⟩ = some (.int .i64 TL) := (World.cell?_of_block hSw).trans (kQ2.c 0); have z1 : w_.cell? ⟨P6, 1, none⟩ = some (.int .i64 TC) := (World.cell?_of_block hSw).trans (kQ2.c 1); go_simp; first | done | with_reducible rfl)
  (try simp only [pu, pn, si, s0, sn])
  refine tak (i := 1) (v := ?_) (gt rfl) ?_ ?_
  rotate_left
  focus (intro w_ hSw; (try dsimp only at hSw); have z0 : w_.cell? ⟨P6, 0, none⟩ = some (.int .i64 TL) := (World.cell?_of_block hSw).trans (kQ2.c 0); have z1 : w_.cell? ⟨P6, 1, none⟩ = some (.int .i64 TC) := (World.cell?_of_block hSw).trans (kQ2.c 1); go_simp; first | done | with_reducible rfl)
  (try simp only [pu, pn, si, s0, sn])
  refine tak (i := 2) (v := ?_) (gt rfl) ?_ ?_
  rotate_left
  focus (intro w_ hSw; (try dsimp only at hSw); have z0 : w_.cell? ⟨P6, 0, none⟩ = some (.int .i64 TL) := (World.cell?_of_block hSw).trans (kQ2.c 0); have z1 : w_.cell? ⟨P6, 1, none⟩ = some (.int .i64 TC) := (World.cell?_of_block hSw).trans (kQ2.c 1); go_simp; first | done | with_reducible rfl)
  (try simp only [pu, pn, si, s0, sn])
  refine wpAnyH_ready (rs := [3]) (by kernel_rfl) (by simp) ?_
  refine AllReadyH.cons (i := 3) (gt rfl) (fun K hK => ?_) ?_
  ·refine step_store_same rfl 34 (.tmp 2) (.tmp 26) rfl B zeroD (by simp [Act.eval]) (by simp [Act.eval, zeroD]) 34 (by repeat (first | exact kB2 | with_reducible apply At.drw)) (by kernel_rfl) (by kernel_rfl) ?_
   refine hK.out _ _ ?_ (fun hHeld => ?_)
   ·(try dsimp only); (repeat (first | with_reducible assumption | rfl | (refine (Below.heap_setCell _ _ _ _ (by dsimp only; omega)).trans ?_)))
   clear hK K
   (try simp only [pu, pn, si, s0, sn])
   refine wpAnyH_ready (rs := [4]) (by kernel_rfl) (by simp) ?_
   refine AllReadyH.cons (i := 4) (gt rfl) (fun K hK => ?_) ?_
   ·go_simp
    refine hK.out _ _ ?_ (fun hHeld => ?_)
    ·(try dsimp only); (repeat (first | with_reducible assumption | rfl | (refine (Below.heap_setCell _ _ _ _ (by dsimp only; omega)).trans ?_)))
    clear hK K
    (try simp only [pu, pn, si, s0, sn])
    refine wpAnyH_ready (rs := [5]) (by kernel_rfl) (by simp) ?_
    refine AllReadyH.cons (i := 5) (gt rfl) (fun K hK => ?_) ?_
    ·go_simp
     refine hK.out _ _ ?_ (fun hHeld => ?_)
     ·(try dsimp only); (repeat (first | with_reducible assumption | rfl | (refine (Below.heap_setCell _ _ _ _ (by dsimp only; omega)).trans ?_)))
     clear hK K
     (try simp only [pu, pn, si, s0, sn])
     refine wpAnyH_done (by kernel_rfl) ?_ _
     refine NoPanic.normal ?_
     go_wp2_with fail
     exact bodyPost_ret (hFin.out _ rfl rfl rfl) rfl hPost.out
    exact AllReadyH.nil
   exact AllReadyH.nil
  exact AllReadyH.nil
 ·subst hE0
  obtain ⟨rfl, rfl⟩ : TL = 0 ∧ TC = 0 := by
   have := htz.out rfl
   injection this with a b
   exact ⟨a, b⟩
  obtain ⟨hE1, hpos, -, -⟩ := hends.out rfl
  have hE := Lib.hid hE1
  obtain ⟨ag, cg, rfl, hcg, htk⟩ := own_tok hown2.out
  obtain ⟨hTk0, hgl⟩ := htk.out
  obtain ⟨g, rfl, -⟩ := hTk0 0 hpos
  have hgl := hgl g rfl
  have hgB : B + 1 < g := by
   have := (hownl.out g rfl).2
   have := HB2.out
   omega
  have hErr0 := Lib.hid fun (j : Nat) (W' : World) (hr : readT ts = .error j) (hb : Below B w W') => (show ReadE (by_ S) w (.returned (.tuple #[.agg zeroD, .agg #[.int .i64 (tk ts j).line, .int .i64 (tk ts j).col], .int .i64 7])) W' from ⟨nilP undef, by rw [hrerr.out rfl j hr, detC_zero], by rw [hrerr.out rfl j hr]; exact rdV_nil _ _, fun b hb => absurd hb (fp_nil _ b), by rw [hB]; exact hb⟩)
  have hOk0 := Lib.hid fun (d : Det) (p : PV) (W' : World) (hr : readT ts = .ok d) (hV : RdV W' d p) (hf : ∀ b, some b ∈ p.fp → B ≤ b) (hb : Below B w W') => (show ReadE (by_ S) w (.returned (.tuple #[.agg (detC d p), .agg #[.int .i64 0, .int .i64 0], .int .i64 0])) W' from ⟨p, by rw [hrok.out rfl d hr], by rw [hrok.out rfl d hr]; exact hV, fun b h => by rw [hB]; exact hf b h, by rw [hB]; exact hb⟩)
  obtain ⟨X, hX⟩ : ∃ X, W2.heap.size = X := ⟨_, rfl⟩
  have hBX : B + 1 < X ∧ g < X := ⟨by have := kP2.lt; omega, by omega⟩
  go_upto_region 5 with fail
  generalize hW4 : World.alloc W2 _ = W4
  have kX4 : At W4 X 34 zeroD := by unfold zeroD; rw [← hW4]; exact At.new' hX.symm
  have hb4 : Below W2.heap.size W2 W4 := by rw [← hW4]; exact below_al (Below.refl _ _) _
  have kB4 := Lib.hid (kB2.bel hb4)
  have kP4 := Lib.hid (kP2.bel hb4)
  have hTk : Hid (∀ W, Below X W4 W → TokAt W (some ⟨g, 0, none⟩) ts) := Lib.hid fun W hb => tokAt_block hTk0 ((hb.block g hBX.2).trans (hb4.block g (by omega)))
  have HB4 : Hid (Below B w W4) := Lib.hid (HB2.out.trans (hb4.mono (by omega)))
  have hErr : Hid (∀ (j : Nat) (W' : World), readT ts = .error j → Below B W4 W' → ReadE (by_ S) w (.returned (.tuple #[.agg zeroD, .agg #[.int .i64 (tk ts j).line, .int .i64 (tk ts j).col], .int .i64 7])) W') := Lib.hid fun j W' hr hb => hErr0.out j W' hr (HB4.out.trans hb)
  clear hW4 kB2 kP2 hb4 hown2 htk hTk0 hreadE hends hrerr hrok htz hownl HB2 hErr0 kQ2 hE1
  go_wp2_with fail
  go_loopg [9, 10, 11] ts.length (fun gm v9 v10 v11 wr => ∃ (i : Nat) (d : Det) (p : PV) (m r : Bool), v9 = .bool m ∧ v10 = .bool r ∧ v11 = .int .i64 (i : Int) ∧ Hid (gm = ts.length - i) ∧ i < ts.length ∧ Hid (RefG ts i d m r) ∧ Hid (At wr X 34 (detC d p)) ∧ Hid (RdV wr d p) ∧ Hid (∀ b, some b ∈ p.fp → X < b) ∧ Hid (Below X W4 wr))
  case atStart => exact ⟨0, det0, nilP undef, false, false, rfl, rfl, rfl, Lib.hid rfl, hpos, Lib.hid RefG.start, Lib.hid (by rw [detC_zero]; exact kX4), Lib.hid (rdV_nil _ _), Lib.hid (fun b hb => absurd hb (fp_nil _ b)), Lib.hid (Below.refl _ _)⟩
  case round =>
   clear kX4
   obtain ⟨i, d, p, m, r, rfl, rfl, rfl, hgm, hi, hG, hAt, hV, hfp, hB⟩ := hrel
   have hLen := hE.out.len
   have hXl : Hid (X ≤ wr.heap.size) := Lib.hid (by have := hAt.out.lt; omega)
   obtain ⟨XS, hXS, x0, x1, x2, x3⟩ := tok_cells (hTk.out wr hB.out) (Below.refl _ _) hi
   by_cases h5 : (tk ts i).kind = 5
   ·rw [h5] at x0
    cases hmr : (m && r) with
    | true =>
     have hR : readT ts = .ok d := by rw [hG.out.stop hi h5]; exact if_pos hmr
     have hm : m = true := by rw [Bool.and_eq_true] at hmr; exact hmr.1
     have hr : r = true := by rw [Bool.and_eq_true] at hmr; exact hmr.2
     subst hm hr
     have kX := hAt.out
     have kB := kB4.out.below hB.out (by omega)
     have kP := kP4.out.below hB.out (by omega)
     have h1c := detC_one hV.out
     have hs6 := detC_size d p
     have kPB : At (wr.setRow B (detC d p)) (B + 1) 43 #[.int .i64 0, .int .i64 0] := kP.row (by omega)
     have p0 : (wr.setRow B (detC d p)).cell? ⟨B + 1, 0, none⟩ = some (.int .i64 0) := kPB.c 0
     have p1 : (wr.setRow B (detC d p)).cell? ⟨B + 1, 1, none⟩ = some (.int .i64 0) := kPB.c 1
     have pf0 : (wr.setRow B (detC d p)).frozen? ⟨B + 1, 0, none⟩ = false := kPB.f 0
     have pf1 : (wr.setRow B (detC d p)).frozen? ⟨B + 1, 1, none⟩ = false := kPB.f 1
     have hSt : Hid (∀ W9, ((wr.setRow B (detC d p)).setCell ⟨B + 1, 0, none⟩ (.int .i64 0)).setCell ⟨B + 1, 1, none⟩ (.int .i64 0) = W9 → W9 = wr.setRow B (detC d p)) := Lib.hid fun W9 e => by
      rw [← e, At.setSelf (j := 0) (v := .int .i64 0) kPB rfl, At.setSelf (j := 1) (v := .int .i64 0) kPB rfl]
     have hFin : Hid (∀ tmps : Array Value, tmps.getD 2 undef = .pointer (some ⟨B, 0, none⟩) → tmps.getD 3 undef = .pointer (some ⟨B + 1, 0, none⟩) → tmps.getD 4 undef = .int .i64 0 → (results Tryz.f21 tmps).run Tryz.prog (wr.setRow B (detC d p)) = .ok (.tuple #[.agg (detC d p), .agg #[.int .i64 0, .int .i64 0], .int .i64 0]) (wr.setRow B (detC d p))) := Lib.hid fun tmps h2 h3 h4 =>
      rread_results tmps _ B _ _ _ h2 h3 h4 kB.rowAt hs6 kPB rfl
     have hPost : Hid (ReadE (by_ S) w (.returned (.tuple #[.agg (detC d p), .agg #[.int .i64 0, .int .i64 0], .int .i64 0])) (wr.setRow B (detC d p))) := Lib.hid (hOk0.out d p _ hR (hV.out.keep fun b hb => setRow_other wr B b _ (by have := hfp.out b hb; omega)) (fun b hb => by have := hfp.out b hb; omega) (below_row (HB4.out.trans (hB.out.mono (by omega))) (Nat.le_refl B) _))
     generalize hWR : wr.setRow B (detC d p) = WR at *
     clear hR hG hV hfp hAt hTk hOk0 hErr kPB hmr hgm
     go_wp2_with (first | (refine wpList_load_row rfl 34 (.tmp 8) rfl X (by simp [Act.eval]) 34 (detC d p) (0, 0) _ kX Tryz.underlying34 rfl (by rw [hs6]; kernel_rfl) ?_) | (refine wpList_store_row rfl 34 (.tmp 2) (.tmp 161) rfl B (detC d p) (by simp [Act.eval, Act.put]) (by simp [Act.eval, Act.put]) 34 zeroD kB (by rw [hs6]; kernel_rfl) (by rw [hs6]; rfl) h1c ?_; rw [hWR]) | fail)
     generalize hW9 : World.setCell (World.setCell WR _ _) _ _ = W9
     obtain rfl := hSt.out W9 hW9
     exact bodyPost_ret (hFin.out _ rfl rfl rfl) rfl hPost.out
    | false =>
     have kB := kB4.out.below hB.out (by omega)
     have kP := kP4.out.below hB.out (by omega)
     cases m with
     | false =>
      have hWhy : readT ts = .error i := (hG.out.stop hi h5).trans (if_neg (by simp))
      have hFin : Hid (∀ tmps : Array Value, tmps.getD 2 undef = .pointer (some ⟨B, 0, none⟩) → tmps.getD 3 undef = .pointer (some ⟨B + 1, 0, none⟩) → tmps.getD 4 undef = .int .i64 7 → (results Tryz.f21 tmps).run Tryz.prog (((wr.setCell ⟨B + 1, 0, none⟩ (.int .i64 (tk ts i).line)).setCell ⟨B + 1, 1, none⟩ (.int .i64 (tk ts i).col)).drew) = .ok (.tuple #[.agg zeroD, .agg #[.int .i64 (tk ts i).line, .int .i64 (tk ts i).col], .int .i64 7]) (((wr.setCell ⟨B + 1, 0, none⟩ (.int .i64 (tk ts i).line)).setCell ⟨B + 1, 1, none⟩ (.int .i64 (tk ts i).col)).drew)) := Lib.hid fun tmps h2 h3 h4 =>
       rread_results tmps _ B _ _ _ h2 h3 h4 ((kB.ne ⟨B + 1, 0, none⟩ _ (by simp)).ne ⟨B + 1, 1, none⟩ _ (by simp)).drw rfl (At.drw (by
        have := (kP.put 0 (.int .i64 (tk ts i).line)).put 1 (.int .i64 (tk ts i).col)
        simpa using this)) rfl
      have hPost : Hid (ReadE (by_ S) w (.returned (.tuple #[.agg zeroD, .agg #[.int .i64 (tk ts i).line, .int .i64 (tk ts i).col], .int .i64 7])) (((wr.setCell ⟨B + 1, 0, none⟩ (.int .i64 (tk ts i).line)).setCell ⟨B + 1, 1, none⟩ (.int .i64 (tk ts i).col)).drew)) := Lib.hid (hErr.out i _ hWhy (below_drew (below_sc (below_sc (hB.out.mono (by omega)) (by omega) 0 _) (by omega) 1 _)))
      have p0 : wr.cell? ⟨B + 1, 0, none⟩ = some (.int .i64 0) := kP.c 0
      have p1 : wr.cell? ⟨B + 1, 1, none⟩ = some (.int .i64 0) := kP.c 1
      have pf0 : wr.frozen? ⟨B + 1, 0, none⟩ = false := kP.f 0
      have pf1 : wr.frozen? ⟨B + 1, 1, none⟩ = false := kP.f 1
      clear hWhy kP
      go_upto_region 29 with fail
      refine wp_region_noPanic ?_
      refine wp_region_held_drew (S := (fun W' => W'.heap[g]? = wr.heap[g]?)) (by kernel_rfl) ?_ (fun hHeld => ?_)
      ·(try dsimp only); (repeat (first | with_reducible assumption | rfl | (refine (Below.heap_setCell _ _ _ _ (by dsimp only; omega)).trans ?_)))
      refine tak (i := 0) (v := ?_) (gt rfl) ?_ ?_
      rotate_left
      focus (intro w_ hSw; (try dsimp only at hSw); have z2 : w_.cell? ⟨g, i * 4 + 2, none⟩ = some (.int .i64 (tk ts i).line) := (World.cell?_of_block hSw).trans x2; have z3 : w_.cell? ⟨g, i * 4 + 3, none⟩ = some (.int .i64 (tk ts i).col) := (World.cell?_of_block hSw).trans x3; go_simp; first | done | with_reducible rfl)
      (try simp only [pu, pn, si, s0, sn])
      refine tak (i := 1) (v := ?_) (gt rfl) ?_ ?_
      rotate_left
      focus (intro w_ hSw; (try dsimp only at hSw); have z2 : w_.cell? ⟨g, i * 4 + 2, none⟩ = some (.int .i64 (tk ts i).line) := (World.cell?_of_block hSw).trans x2; have z3 : w_.cell? ⟨g, i * 4 + 3, none⟩ = some (.int .i64 (tk ts i).col) := (World.cell?_of_block hSw).trans x3; go_simp; first | done | with_reducible rfl)
      (try simp only [pu, pn, si, s0, sn])
      refine tak (i := 2) (v := ?_) (gt rfl) ?_ ?_
      rotate_left
      focus (intro w_ hSw; (try dsimp only at hSw); have z2 : w_.cell? ⟨g, i * 4 + 2, none⟩ = some (.int .i64 (tk ts i).line) := (World.cell?_of_block hSw).trans x2; have z3 : w_.cell? ⟨g, i * 4 + 3, none⟩ = some (.int .i64 (tk ts i).col) := (World.cell?_of_block hSw).trans x3; go_simp; first | done | with_reducible rfl)
      (try simp only [pu, pn, si, s0, sn])
      refine tak (i := 3) (v := ?_) (gt rfl) ?_ ?_
      rotate_left
      focus (intro w_ hSw; (try dsimp only at hSw); have z2 : w_.cell? ⟨g, i * 4 + 2, none⟩ = some (.int .i64 (tk ts i).line) := (World.cell?_of_block hSw).trans x2; have z3 : w_.cell? ⟨g, i * 4 + 3, none⟩ = some (.int .i64 (tk ts i).col) := (World.cell?_of_block hSw).trans x3; go_simp; first | done | with_reducible rfl)
      (try simp only [pu, pn, si, s0, sn])
      refine tak (i := 4) (v := ?_) (gt rfl) ?_ ?_
      rotate_left
      focus (intro w_ hSw; (try dsimp only at hSw); have z2 : w_.cell? ⟨g, i * 4 + 2, none⟩ = some (.int .i64 (tk ts i).line) := (World.cell?_of_block hSw).trans x2; have z3 : w_.cell? ⟨g, i * 4 + 3, none⟩ = some (.int .i64 (tk ts i).col) := (World.cell?_of_block hSw).trans x3; go_simp; first | done | with_reducible rfl)
      (try simp only [pu, pn, si, s0, sn])
      refine tak (i := 5) (v := ?_) (gt rfl) ?_ ?_
      rotate_left
      focus (intro w_ hSw; (try dsimp only at hSw); have z2 : w_.cell? ⟨g, i * 4 + 2, none⟩ = some (.int .i64 (tk ts i).line) := (World.cell?_of_block hSw).trans x2; have z3 : w_.cell? ⟨g, i * 4 + 3, none⟩ = some (.int .i64 (tk ts i).col) := (World.cell?_of_block hSw).trans x3; go_simp; first | done | with_reducible rfl)
      (try simp only [pu, pn, si, s0, sn])
      refine wpAnyH_ready (rs := [6]) (by kernel_rfl) (by simp) ?_
      refine AllReadyH.cons (i := 6) (gt rfl) (fun K hK => ?_) ?_
      ·refine step_store_same rfl 34 (.tmp 2) (.tmp 155) rfl B zeroD (by simp [Act.eval]) (by simp [Act.eval, zeroD]) 34 (by repeat (first | exact kB | with_reducible apply At.drw)) (by kernel_rfl) (by kernel_rfl) ?_
       refine hK.out _ _ ?_ (fun hHeld => ?_)
       ·(try dsimp only); (repeat (first | with_reducible assumption | rfl | (refine (Below.heap_setCell _ _ _ _ (by dsimp only; omega)).trans ?_)))
       clear hK K
       (try simp only [pu, pn, si, s0, sn])
       refine wpAnyH_ready (rs := [7]) (by kernel_rfl) (by simp) ?_
       refine AllReadyH.cons (i := 7) (gt rfl) (fun K hK => ?_) ?_
       ·go_simp
        refine hK.out _ _ ?_ (fun hHeld => ?_)
        ·(try dsimp only); (repeat (first | with_reducible assumption | rfl | (refine (Below.heap_setCell _ _ _ _ (by dsimp only; omega)).trans ?_)))
        clear hK K
        (try simp only [pu, pn, si, s0, sn])
        refine wpAnyH_ready (rs := [8]) (by kernel_rfl) (by simp) ?_
        refine AllReadyH.cons (i := 8) (gt rfl) (fun K hK => ?_) ?_
        ·go_simp
         refine hK.out _ _ ?_ (fun hHeld => ?_)
         ·(try dsimp only); (repeat (first | with_reducible assumption | rfl | (refine (Below.heap_setCell _ _ _ _ (by dsimp only; omega)).trans ?_)))
         clear hK K
         (try simp only [pu, pn, si, s0, sn])
         refine wpAnyH_done (by kernel_rfl) ?_ _
         refine NoPanic.normal ?_
         go_wp2_with fail
         exact bodyPost_ret (hFin.out _ rfl rfl rfl) rfl hPost.out
        exact AllReadyH.nil
       exact AllReadyH.nil
      exact AllReadyH.nil
     | true =>
      obtain rfl : r = false := by simpa using hmr
      have hWhy : readT ts = .error i := (hG.out.stop hi h5).trans (if_neg (by simp))
      have hFin : Hid (∀ tmps : Array Value, tmps.getD 2 undef = .pointer (some ⟨B, 0, none⟩) → tmps.getD 3 undef = .pointer (some ⟨B + 1, 0, none⟩) → tmps.getD 4 undef = .int .i64 7 → (results Tryz.f21 tmps).run Tryz.prog (((wr.setCell ⟨B + 1, 0, none⟩ (.int .i64 (tk ts i).line)).setCell ⟨B + 1, 1, none⟩ (.int .i64 (tk ts i).col)).drew) = .ok (.tuple #[.agg zeroD, .agg #[.int .i64 (tk ts i).line, .int .i64 (tk ts i).col], .int .i64 7]) (((wr.setCell ⟨B + 1, 0, none⟩ (.int .i64 (tk ts i).line)).setCell ⟨B + 1, 1, none⟩ (.int .i64 (tk ts i).col)).drew)) := Lib.hid fun tmps h2 h3 h4 =>
       rread_results tmps _ B _ _ _ h2 h3 h4 ((kB.ne ⟨B + 1, 0, none⟩ _ (by simp)).ne ⟨B + 1, 1, none⟩ _ (by simp)).drw rfl (At.drw (by
        have := (kP.put 0 (.int .i64 (tk ts i).line)).put 1 (.int .i64 (tk ts i).col)
        simpa using this)) rfl
      have hPost : Hid (ReadE (by_ S) w (.returned (.tuple #[.agg zeroD, .agg #[.int .i64 (tk ts i).line, .int .i64 (tk ts i).col], .int .i64 7])) (((wr.setCell ⟨B + 1, 0, none⟩ (.int .i64 (tk ts i).line)).setCell ⟨B + 1, 1, none⟩ (.int .i64 (tk ts i).col)).drew)) := Lib.hid (hErr.out i _ hWhy (below_drew (below_sc (below_sc (hB.out.mono (by omega)) (by omega) 0 _) (by omega) 1 _)))
      have p0 : wr.cell? ⟨B + 1, 0, none⟩ = some (.int .i64 0) := kP.c 0
      have p1 : wr.cell? ⟨B + 1, 1, none⟩ = some (.int .i64 0) := kP.c 1
      have pf0 : wr.frozen? ⟨B + 1, 0, none⟩ = false := kP.f 0
      have pf1 : wr.frozen? ⟨B + 1, 1, none⟩ = false := kP.f 1
      clear hWhy kP
      go_upto_region 29 with fail
      refine wp_region_noPanic ?_
      refine wp_region_held_drew (S := (fun W' => W'.heap[g]? = wr.heap[g]?)) (by kernel_rfl) ?_ (fun hHeld => ?_)
      ·(try dsimp only); (repeat (first | with_reducible assumption | rfl | (refine (Below.heap_setCell _ _ _ _ (by dsimp only; omega)).trans ?_)))
      refine tak (i := 0) (v := ?_) (gt rfl) ?_ ?_
      rotate_left
      focus (intro w_ hSw; (try dsimp only at hSw); have z2 : w_.cell? ⟨g, i * 4 + 2, none⟩ = some (.int .i64 (tk ts i).line) := (World.cell?_of_block hSw).trans x2; have z3 : w_.cell? ⟨g, i * 4 + 3, none⟩ = some (.int .i64 (tk ts i).col) := (World.cell?_of_block hSw).trans x3; go_simp; first | done | with_reducible rfl)
      (try simp only [pu, pn, si, s0, sn])
      refine tak (i := 1) (v := ?_) (gt rfl) ?_ ?_
      rotate_left
      focus (intro w_ hSw; (try dsimp only at hSw); have z2 : w_.cell? ⟨g, i * 4 + 2, none⟩ = some (.int .i64 (tk ts i).line) := (World.cell?_of_block hSw).trans x2; have z3 : w_.cell? ⟨g, i * 4 + 3, none⟩ = some (.int .i64 (tk ts i).col) := (World.cell?_of_block hSw).trans x3; go_simp; first | done | with_reducible rfl)
      (try simp only [pu, pn, si, s0, sn])
      refine tak (i := 2) (v := ?_) (gt rfl) ?_ ?_
      rotate_left
      focus (intro w_ hSw; (try dsimp only at hSw); have z2 : w_.cell? ⟨g, i * 4 + 2, none⟩ = some (.int .i64 (tk ts i).line) := (World.cell?_of_block hSw).trans x2; have z3 : w_.cell? ⟨g, i * 4 + 3, none⟩ = some (.int .i64 (tk ts i).col) := (World.cell?_of_block hSw).trans x3; go_simp; first | done | with_reducible rfl)
      (try simp only [pu, pn, si, s0, sn])
      refine tak (i := 3) (v := ?_) (gt rfl) ?_ ?_
      rotate_left
      focus (intro w_ hSw; (try dsimp only at hSw); have z2 : w_.cell? ⟨g, i * 4 + 2, none⟩ = some (.int .i64 (tk ts i).line) := (World.cell?_of_block hSw).trans x2; have z3 : w_.cell? ⟨g, i * 4 + 3, none⟩ = some (.int .i64 (tk ts i).col) := (World.cell?_of_block hSw).trans x3; go_simp; first | done | with_reducible rfl)
      (try simp only [pu, pn, si, s0, sn])
      refine tak (i := 4) (v := ?_) (gt rfl) ?_ ?_
      rotate_left
      focus (intro w_ hSw; (try dsimp only at hSw); have z2 : w_.cell? ⟨g, i * 4 + 2, none⟩ = some (.int .i64 (tk ts i).line) := (World.cell?_of_block hSw).trans x2; have z3 : w_.cell? ⟨g, i * 4 + 3, none⟩ = some (.int .i64 (tk ts i).col) := (World.cell?_of_block hSw).trans x3; go_simp; first | done | with_reducible rfl)
      (try simp only [pu, pn, si, s0, sn])
      refine tak (i := 5) (v := ?_) (gt rfl) ?_ ?_
      rotate_left
      focus (intro w_ hSw; (try dsimp only at hSw); have z2 : w_.cell? ⟨g, i * 4 + 2, none⟩ = some (.int .i64 (tk ts i).line) := (World.cell?_of_block hSw).trans x2; have z3 : w_.cell? ⟨g, i * 4 + 3, none⟩ = some (.int .i64 (tk ts i).col) := (World.cell?_of_block hSw).trans x3; go_simp; first | done | with_reducible rfl)
      (try simp only [pu, pn, si, s0, sn])
      refine wpAnyH_ready (rs := [6]) (by kernel_rfl) (by simp) ?_
      refine AllReadyH.cons (i := 6) (gt rfl) (fun K hK => ?_) ?_
      ·refine step_store_same rfl 34 (.tmp 2) (.tmp 155) rfl B zeroD (by simp [Act.eval]) (by simp [Act.eval, zeroD]) 34 (by repeat (first | exact kB | with_reducible apply At.drw)) (by kernel_rfl) (by kernel_rfl) ?_
       refine hK.out _ _ ?_ (fun hHeld => ?_)
       ·(try dsimp only); (repeat (first | with_reducible assumption | rfl | (refine (Below.heap_setCell _ _ _ _ (by dsimp only; omega)).trans ?_)))
       clear hK K
       (try simp only [pu, pn, si, s0, sn])
       refine wpAnyH_ready (rs := [7]) (by kernel_rfl) (by simp) ?_
       refine AllReadyH.cons (i := 7) (gt rfl) (fun K hK => ?_) ?_
       ·go_simp
        refine hK.out _ _ ?_ (fun hHeld => ?_)
        ·(try dsimp only); (repeat (first | with_reducible assumption | rfl | (refine (Below.heap_setCell _ _ _ _ (by dsimp only; omega)).trans ?_)))
        clear hK K
        (try simp only [pu, pn, si, s0, sn])
        refine wpAnyH_ready (rs := [8]) (by kernel_rfl) (by simp) ?_
        refine AllReadyH.cons (i := 8) (gt rfl) (fun K hK => ?_) ?_
        ·go_simp
         refine hK.out _ _ ?_ (fun hHeld => ?_)
         ·(try dsimp only); (repeat (first | with_reducible assumption | rfl | (refine (Below.heap_setCell _ _ _ _ (by dsimp only; omega)).trans ?_)))
         clear hK K
         (try simp only [pu, pn, si, s0, sn])
         refine wpAnyH_done (by kernel_rfl) ?_ _
         refine NoPanic.normal ?_
         go_wp2_with fail
         exact bodyPost_ret (hFin.out _ rfl rfl rfl) rfl hPost.out
        exact AllReadyH.nil
       exact AllReadyH.nil
      exact AllReadyH.nil
   by_cases h4 : (tk ts i).kind = 4
   ·rw [h4] at x0
    have hG2 := Lib.hid (hG.out.line hi h4)
    have hi2 : i + 1 < ts.length := hE.out.more i hi h5
    clear hTk hErr hOk0 kB4 kP4 h5 h4 hG x1 x2 x3 hXS
    go_wp2_with fail
    go_roundg (ts.length - (i + 1))
    case measure => have := hgm.out; omega
    case rel => exact ⟨i + 1, d, p, m, r, rfl, rfl, by go_num, Lib.hid rfl, hi2, hG2, hAt, hV, hfp, hB⟩
   ·have h5' : ((tk ts i).kind != 5) = true := by simpa using h5
    have h4' : ((tk ts i).kind == 4) = false := by simpa using h4
    have hi2 : i + 1 < ts.length := hE.out.more i hi h5
    replace h4 := Lib.hid h4
    replace h5 := Lib.hid h5
    obtain ⟨WT, hWT⟩ : ∃ WT, (tk ts i).text = WT := ⟨_, rfl⟩
    rw [hWT] at hXS
    obtain ⟨L, hL⟩ : ∃ L, leastW WT = L := ⟨_, rfl⟩
    have hL9 : L ≤ 9 := by rw [← hL]; exact least_9 WT
    obtain ⟨b, hb⟩ : ∃ b, wordR (tk ts i) d m r = b := ⟨_, rfl⟩
    obtain ⟨ad, cd, hvd, -⟩ := hV.out.view.dems
    obtain ⟨nd, hnd⟩ : ∃ n, d.dems.length = n := ⟨_, rfl⟩
    rw [List.length_zip, hV.out.ns, Nat.min_self, hnd] at hvd
    have y9 : wr.cell? ⟨X, 9, none⟩ = some (.slice ad nd cd) := by
     rw [← hvd]
     exact hAt.out.c 9
    obtain ⟨em, hem⟩ : ∃ e, ((nd : Int) == 0) = e := ⟨_, rfl⟩
    have hem2 : d.dems.isEmpty = em := by rw [isEmpty_len, hnd, ← hem, Bool.eq_iff_iff]; simp
    obtain ⟨bM, hM⟩ : ∃ e, (XS.toList == [109, 101, 109, 98, 101, 114]) = e := ⟨_, rfl⟩
    obtain ⟨bR, hR⟩ : ∃ e, (XS.toList == [114, 117, 108, 101]) = e := ⟨_, rfl⟩
    obtain ⟨bS, hS⟩ : ∃ e, (XS.toList == [115, 116, 101, 112]) = e := ⟨_, rfl⟩
    obtain ⟨bB, hBb⟩ : ∃ e, (XS.toList == [98, 97, 114]) = e := ⟨_, rfl⟩
    have dM : decide (WT = wMember) = bM := by rw [← hM, str_eqb, hXS]; first | done | rfl
    have dR : decide (WT = wRule) = bR := by rw [← hR, str_eqb, hXS]; first | done | rfl
    have dS : decide (WT = wStep) = bS := by rw [← hS, str_eqb, hXS]; first | done | rfl
    have dB : decide (WT = wBar) = bB := by rw [← hBb, str_eqb, hXS]; first | done | rfl
    have hbv : Hid (b = (decide ((tk ts i).kind = 1) && decide (0 < L) && (m != bM) && !(r && bR) && !(bS && em))) := Lib.hid (by rw [← hb]; unfold wordR; rw [hWT, hL, dM, dR, dS, hem2])
    have hlin : Hid (∀ j, linF ts L bB j = lineT ts WT j) := Lib.hid fun j => by rw [lineT_lin, hL, dB]
    have HLe : Hid (∀ W, Calls Tryz.prog 61 #[.string XS] W fun e w' => e = .returned (.int .i64 (L : Int)) ∧ W = w') := Lib.hid fun W => by
     have h := least_any XS W
     rwa [hXS, hL] at h
    obtain ⟨bN, hbN⟩ : ∃ e, namedW WT = e := ⟨_, rfl⟩
    have HNa : Hid (∀ W, Calls Tryz.prog 62 #[.string XS] W fun e w' => e = .returned (.bool bN) ∧ W = w') := Lib.hid fun W => by
     have h := named_any XS W
     rwa [hXS, hbN] at h
    obtain ⟨rr, hrr0⟩ : ∃ e, (r || decide (WT = wRule)) = e := ⟨_, rfl⟩
    have hrr : Hid ((r || bR) = rr) := Lib.hid (by rw [← dR]; exact hrr0)
    have hWT2 : Hid ((⟨WT.toArray⟩ : ByteArray) = XS) := Lib.hid (by rw [← hXS]; first | done | exact by_mk XS)
    have hG9 : Hid (RefG ts i d m r) := hG
    replace hem2 := Lib.hid hem2
    replace dS := Lib.hid dS
    replace hbN := Lib.hid hbN
    replace hL := Lib.hid hL
    replace hWT := Lib.hid hWT
    replace hb := Lib.hid hb
    replace hXS := Lib.hid hXS
    replace hrr0 := Lib.hid hrr0
    clear hnd hvd dM dB
    replace dR := Lib.hid dR
    go_wp2_with fail
    refine (HLe.out wr).mono ?_
    rintro e w' ⟨rfl, rfl⟩
    go_upto_region 12 with fail
    go_cut [82] from 29 to 148 (fun v wn => v = .bool (!b) ∧ wr = wn)
    case first =>
     clear hTk hErr hOk0 kB4 kP4 hG hAt hV hfp hB HLe HNa hlin hG9 hgm HB4
     by_cases k1 : (tk ts i).kind = 1
     ·rw [k1] at x0
      rw [decide_eq_true k1, Bool.true_and] at hbv
      by_cases l0 : L = 0
      ·subst l0
       rw [decide_eq_false (by decide), Bool.false_and, Bool.false_and, Bool.false_and] at hbv
       go_wp2_with fail
       go_meet
       exact ⟨by rw [hbv.out]; rfl, rfl⟩
      ·have hl0 : ((L : Int) == 0) = false := by simp; omega
       rw [decide_eq_true (by omega), Bool.true_and] at hbv
       replace l0 := Lib.hid l0
       cases m <;> cases bM <;> cases r <;> cases bR <;> cases bS <;> cases em <;> (go_wp2_with fail; go_meet; exact ⟨by rw [hbv.out]; rfl, rfl⟩)
     ·have k1' : ((tk ts i).kind != 1) = true := by simpa using k1
      rw [decide_eq_false k1, Bool.false_and, Bool.false_and, Bool.false_and, Bool.false_and] at hbv
      go_wp2_with fail
      go_meet
      exact ⟨by rw [hbv.out]; rfl, rfl⟩
    obtain ⟨rfl, rfl⟩ := hcut
    clear hM hS hem
    cases b with
    | false =>
     have hwf : wordR (tk ts i) d m r = false := hb.out
     have kB := kB4.out.below hB.out (by omega)
     have kP := kP4.out.below hB.out (by omega)
     have hWhy : readT ts = .error i := hG.out.word hi h4.out h5.out hwf
     have hFin : Hid (∀ tmps : Array Value, tmps.getD 2 undef = .pointer (some ⟨B, 0, none⟩) → tmps.getD 3 undef = .pointer (some ⟨B + 1, 0, none⟩) → tmps.getD 4 undef = .int .i64 7 → (results Tryz.f21 tmps).run Tryz.prog (((wr.setCell ⟨B + 1, 0, none⟩ (.int .i64 (tk ts i).line)).setCell ⟨B + 1, 1, none⟩ (.int .i64 (tk ts i).col)).drew) = .ok (.tuple #[.agg zeroD, .agg #[.int .i64 (tk ts i).line, .int .i64 (tk ts i).col], .int .i64 7]) (((wr.setCell ⟨B + 1, 0, none⟩ (.int .i64 (tk ts i).line)).setCell ⟨B + 1, 1, none⟩ (.int .i64 (tk ts i).col)).drew)) := Lib.hid fun tmps h2 h3 h4 =>
      rread_results tmps _ B _ _ _ h2 h3 h4 ((kB.ne ⟨B + 1, 0, none⟩ _ (by simp)).ne ⟨B + 1, 1, none⟩ _ (by simp)).drw rfl (At.drw (by
       have := (kP.put 0 (.int .i64 (tk ts i).line)).put 1 (.int .i64 (tk ts i).col)
       simpa using this)) rfl
     have hPost : Hid (ReadE (by_ S) w (.returned (.tuple #[.agg zeroD, .agg #[.int .i64 (tk ts i).line, .int .i64 (tk ts i).col], .int .i64 7])) (((wr.setCell ⟨B + 1, 0, none⟩ (.int .i64 (tk ts i).line)).setCell ⟨B + 1, 1, none⟩ (.int .i64 (tk ts i).col)).drew)) := Lib.hid (hErr.out i _ hWhy (below_drew (below_sc (below_sc (hB.out.mono (by omega)) (by omega) 0 _) (by omega) 1 _)))
     have p0 : wr.cell? ⟨B + 1, 0, none⟩ = some (.int .i64 0) := kP.c 0
     have p1 : wr.cell? ⟨B + 1, 1, none⟩ = some (.int .i64 0) := kP.c 1
     have pf0 : wr.frozen? ⟨B + 1, 0, none⟩ = false := kP.f 0
     have pf1 : wr.frozen? ⟨B + 1, 1, none⟩ = false := kP.f 1
     clear hWhy kP
     go_upto_region 13 with fail
     refine wp_region_noPanic ?_
     refine wp_region_held_drew (S := (fun W' => W'.heap[g]? = wr.heap[g]?)) (by kernel_rfl) ?_ (fun hHeld => ?_)
     ·(try dsimp only); (repeat (first | with_reducible assumption | rfl | (refine (Below.heap_setCell _ _ _ _ (by dsimp only; omega)).trans ?_)))
     refine tak (i := 0) (v := ?_) (gt rfl) ?_ ?_
     rotate_left
     focus (intro w_ hSw; (try dsimp only at hSw); have z2 : w_.cell? ⟨g, i * 4 + 2, none⟩ = some (.int .i64 (tk ts i).line) := (World.cell?_of_block hSw).trans x2; have z3 : w_.cell? ⟨g, i * 4 + 3, none⟩ = some (.int .i64 (tk ts i).col) := (World.cell?_of_block hSw).trans x3; go_simp; first | done | with_reducible rfl)
     (try simp only [pu, pn, si, s0, sn])
     refine tak (i := 1) (v := ?_) (gt rfl) ?_ ?_
     rotate_left
     focus (intro w_ hSw; (try dsimp only at hSw); have z2 : w_.cell? ⟨g, i * 4 + 2, none⟩ = some (.int .i64 (tk ts i).line) := (World.cell?_of_block hSw).trans x2; have z3 : w_.cell? ⟨g, i * 4 + 3, none⟩ = some (.int .i64 (tk ts i).col) := (World.cell?_of_block hSw).trans x3; go_simp; first | done | with_reducible rfl)
     (try simp only [pu, pn, si, s0, sn])
     refine tak (i := 2) (v := ?_) (gt rfl) ?_ ?_
     rotate_left
     focus (intro w_ hSw; (try dsimp only at hSw); have z2 : w_.cell? ⟨g, i * 4 + 2, none⟩ = some (.int .i64 (tk ts i).line) := (World.cell?_of_block hSw).trans x2; have z3 : w_.cell? ⟨g, i * 4 + 3, none⟩ = some (.int .i64 (tk ts i).col) := (World.cell?_of_block hSw).trans x3; go_simp; first | done | with_reducible rfl)
     (try simp only [pu, pn, si, s0, sn])
     refine tak (i := 3) (v := ?_) (gt rfl) ?_ ?_
     rotate_left
     focus (intro w_ hSw; (try dsimp only at hSw); have z2 : w_.cell? ⟨g, i * 4 + 2, none⟩ = some (.int .i64 (tk ts i).line) := (World.cell?_of_block hSw).trans x2; have z3 : w_.cell? ⟨g, i * 4 + 3, none⟩ = some (.int .i64 (tk ts i).col) := (World.cell?_of_block hSw).trans x3; go_simp; first | done | with_reducible rfl)
     (try simp only [pu, pn, si, s0, sn])
     refine tak (i := 4) (v := ?_) (gt rfl) ?_ ?_
     rotate_left
     focus (intro w_ hSw; (try dsimp only at hSw); have z2 : w_.cell? ⟨g, i * 4 + 2, none⟩ = some (.int .i64 (tk ts i).line) := (World.cell?_of_block hSw).trans x2; have z3 : w_.cell? ⟨g, i * 4 + 3, none⟩ = some (.int .i64 (tk ts i).col) := (World.cell?_of_block hSw).trans x3; go_simp; first | done | with_reducible rfl)
     (try simp only [pu, pn, si, s0, sn])
     refine tak (i := 5) (v := ?_) (gt rfl) ?_ ?_
     rotate_left
     focus (intro w_ hSw; (try dsimp only at hSw); have z2 : w_.cell? ⟨g, i * 4 + 2, none⟩ = some (.int .i64 (tk ts i).line) := (World.cell?_of_block hSw).trans x2; have z3 : w_.cell? ⟨g, i * 4 + 3, none⟩ = some (.int .i64 (tk ts i).col) := (World.cell?_of_block hSw).trans x3; go_simp; first | done | with_reducible rfl)
     (try simp only [pu, pn, si, s0, sn])
     refine wpAnyH_ready (rs := [6]) (by kernel_rfl) (by simp) ?_
     refine AllReadyH.cons (i := 6) (gt rfl) (fun K hK => ?_) ?_
     ·refine step_store_same rfl 34 (.tmp 2) (.tmp 83) rfl B zeroD (by simp [Act.eval]) (by simp [Act.eval, zeroD]) 34 (by repeat (first | exact kB | with_reducible apply At.drw)) (by kernel_rfl) (by kernel_rfl) ?_
      refine hK.out _ _ ?_ (fun hHeld => ?_)
      ·(try dsimp only); (repeat (first | with_reducible assumption | rfl | (refine (Below.heap_setCell _ _ _ _ (by dsimp only; omega)).trans ?_)))
      clear hK K
      (try simp only [pu, pn, si, s0, sn])
      refine wpAnyH_ready (rs := [7]) (by kernel_rfl) (by simp) ?_
      refine AllReadyH.cons (i := 7) (gt rfl) (fun K hK => ?_) ?_
      ·go_simp
       refine hK.out _ _ ?_ (fun hHeld => ?_)
       ·(try dsimp only); (repeat (first | with_reducible assumption | rfl | (refine (Below.heap_setCell _ _ _ _ (by dsimp only; omega)).trans ?_)))
       clear hK K
       (try simp only [pu, pn, si, s0, sn])
       refine wpAnyH_ready (rs := [8]) (by kernel_rfl) (by simp) ?_
       refine AllReadyH.cons (i := 8) (gt rfl) (fun K hK => ?_) ?_
       ·go_simp
        refine hK.out _ _ ?_ (fun hHeld => ?_)
        ·(try dsimp only); (repeat (first | with_reducible assumption | rfl | (refine (Below.heap_setCell _ _ _ _ (by dsimp only; omega)).trans ?_)))
        clear hK K
        (try simp only [pu, pn, si, s0, sn])
        refine wpAnyH_done (by kernel_rfl) ?_ _
        refine NoPanic.normal ?_
        go_wp2_with fail
        exact bodyPost_ret (hFin.out _ rfl rfl rfl) rfl hPost.out
       exact AllReadyH.nil
      exact AllReadyH.nil
     exact AllReadyH.nil
    | true =>
     have hwt : Hid (wordR (tk ts i) d m r = true) := hb
     have hk1 : (tk ts i).kind = 1 ∧ 0 < leastW WT ∧ (WT = wStep → d.dems ≠ []) := by
      have h := hwt.out
      unfold wordR at h
      rw [hWT.out] at h
      simp only [Bool.and_eq_true, decide_eq_true_eq, Bool.not_eq_true', Bool.and_eq_false_iff] at h
      refine ⟨h.1.1.1.1, h.1.1.1.2, fun e q => ?_⟩
      rcases h.2 with a | a
      ·exact of_decide_eq_false a e
      ·rw [q] at a; cases a
     have hW0 := Lib.hid hk1.2.1
     have hst := Lib.hid hk1.2.2
     clear hk1
     obtain ⟨i1, hi1⟩ : ∃ i1, i + 1 = i1 := ⟨_, rfl⟩
     rw [hi1] at hi2
     have hkw : IntKind.i64.wrap ((i : Int) + 1) = (i1 : Int) := wrap_next hi1 hi hLen
     have hkw2 : wrap64 ((i : Int) + 1) = (i1 : Int) := wrap_next2 hi1 hi hLen
     replace hi1 := Lib.hid hi1
     clear x0 x1 x2 x3 y9
     go_wp2_with fail
     refine (HNa.out wr).mono ?_
     rintro e w' ⟨rfl, rfl⟩
     clear hkw hkw2
     cases bN with
     | false =>
      have hn : Hid (nameG ts (tk ts i).text i = .ok (([] : List UInt8), i1)) := Lib.hid (by unfold nameG; rw [hWT.out, if_neg (by rw [hbN.out]; decide), hi1.out])
      obtain ⟨nm, hnm⟩ : ∃ nm : List UInt8, nm = [] := ⟨_, rfl⟩
      rw [← hnm] at hn
      have hNM2 : Hid ((⟨nm.toArray⟩ : ByteArray) = ⟨#[]⟩) := Lib.hid (by rw [hnm])
      clear hnm
      obtain ⟨j, hjj⟩ : ∃ j, j = i1 := ⟨_, rfl⟩
      subst hjj
      have hj := hi2
      have HNum := Lib.hid (rnumbers_any ts hE.out wr g cg (hTk.out wr hB.out) j L bB hj hL9)
      rw [hlin.out j] at HNum
      obtain ⟨D, hD⟩ : ∃ D, lineT ts WT j = D := ⟨_, rfl⟩
      rw [hD] at HNum
      cases D with
      | error e1 =>
       have he1 : e1 < ts.length := line_err_lt hE.out hj hD
       replace HNum : Hid (Calls Tryz.prog 63 #[.slice (some ⟨g, 0, none⟩) ts.length cg, .int .i64 (j : Int), .int .i64 (L : Int), .bool bB] wr fun e w' => e = .returned (.tuple #[.slice none 0 0, .int .i64 (e1 : Int), .bool false]) ∧ Below wr.heap.size wr w') := Lib.hid (HNum.out.mono fun e w' h => ⟨h.2, h.1⟩)
       go_wp2_with fail
       refine HNum.out.mono ?_
       rintro e w5 ⟨rfl, hb5⟩
       (try clear hjw hjw2)
       have hB5 := Lib.hid (hB.out.trans (hb5.mono hXl.out))
       obtain ⟨XE, -, x0, x1, x2, x3⟩ := tok_cells (hTk.out w5 hB5.out) (Below.refl _ _) he1
       have kB := kB4.out.below hB5.out (by omega)
       have kP := kP4.out.below hB5.out (by omega)
       clear hb5 HNum
       have hWhy : readT ts = .error e1 := hG.out.nums hi h4.out h5.out hwt.out hn.out (by rw [hWT.out]; exact hD)
       have hFin : Hid (∀ tmps : Array Value, tmps.getD 2 undef = .pointer (some ⟨B, 0, none⟩) → tmps.getD 3 undef = .pointer (some ⟨B + 1, 0, none⟩) → tmps.getD 4 undef = .int .i64 7 → (results Tryz.f21 tmps).run Tryz.prog (((w5.setCell ⟨B + 1, 0, none⟩ (.int .i64 (tk ts e1).line)).setCell ⟨B + 1, 1, none⟩ (.int .i64 (tk ts e1).col)).drew) = .ok (.tuple #[.agg zeroD, .agg #[.int .i64 (tk ts e1).line, .int .i64 (tk ts e1).col], .int .i64 7]) (((w5.setCell ⟨B + 1, 0, none⟩ (.int .i64 (tk ts e1).line)).setCell ⟨B + 1, 1, none⟩ (.int .i64 (tk ts e1).col)).drew)) := Lib.hid fun tmps h2 h3 h4 =>
        rread_results tmps _ B _ _ _ h2 h3 h4 ((kB.ne ⟨B + 1, 0, none⟩ _ (by simp)).ne ⟨B + 1, 1, none⟩ _ (by simp)).drw rfl (At.drw (by
         have := (kP.put 0 (.int .i64 (tk ts e1).line)).put 1 (.int .i64 (tk ts e1).col)
         simpa using this)) rfl
       have hPost : Hid (ReadE (by_ S) w (.returned (.tuple #[.agg zeroD, .agg #[.int .i64 (tk ts e1).line, .int .i64 (tk ts e1).col], .int .i64 7])) (((w5.setCell ⟨B + 1, 0, none⟩ (.int .i64 (tk ts e1).line)).setCell ⟨B + 1, 1, none⟩ (.int .i64 (tk ts e1).col)).drew)) := Lib.hid (hErr.out e1 _ hWhy (below_drew (below_sc (below_sc (hB5.out.mono (by omega)) (by omega) 0 _) (by omega) 1 _)))
       have p0 : w5.cell? ⟨B + 1, 0, none⟩ = some (.int .i64 0) := kP.c 0
       have p1 : w5.cell? ⟨B + 1, 1, none⟩ = some (.int .i64 0) := kP.c 1
       have pf0 : w5.frozen? ⟨B + 1, 0, none⟩ = false := kP.f 0
       have pf1 : w5.frozen? ⟨B + 1, 1, none⟩ = false := kP.f 1
       clear hWhy kP
       go_upto_region 24 with fail
       refine wp_region_noPanic ?_
       refine wp_region_held_drew (S := (fun W' => W'.heap[g]? = w5.heap[g]?)) (by kernel_rfl) ?_ (fun hHeld => ?_)
       ·(try dsimp only); (repeat (first | with_reducible assumption | rfl | (refine (Below.heap_setCell _ _ _ _ (by dsimp only; omega)).trans ?_)))
       refine tak (i := 0) (v := ?_) (gt rfl) ?_ ?_
       rotate_left
       focus (intro w_ hSw; (try dsimp only at hSw); have z2 : w_.cell? ⟨g, e1 * 4 + 2, none⟩ = some (.int .i64 (tk ts e1).line) := (World.cell?_of_block hSw).trans x2; have z3 : w_.cell? ⟨g, e1 * 4 + 3, none⟩ = some (.int .i64 (tk ts e1).col) := (World.cell?_of_block hSw).trans x3; go_simp; first | done | with_reducible rfl)
       (try simp only [pu, pn, si, s0, sn])
       refine tak (i := 1) (v := ?_) (gt rfl) ?_ ?_
       rotate_left
       focus (intro w_ hSw; (try dsimp only at hSw); have z2 : w_.cell? ⟨g, e1 * 4 + 2, none⟩ = some (.int .i64 (tk ts e1).line) := (World.cell?_of_block hSw).trans x2; have z3 : w_.cell? ⟨g, e1 * 4 + 3, none⟩ = some (.int .i64 (tk ts e1).col) := (World.cell?_of_block hSw).trans x3; go_simp; first | done | with_reducible rfl)
       (try simp only [pu, pn, si, s0, sn])
       refine tak (i := 2) (v := ?_) (gt rfl) ?_ ?_
       rotate_left
       focus (intro w_ hSw; (try dsimp only at hSw); have z2 : w_.cell? ⟨g, e1 * 4 + 2, none⟩ = some (.int .i64 (tk ts e1).line) := (World.cell?_of_block hSw).trans x2; have z3 : w_.cell? ⟨g, e1 * 4 + 3, none⟩ = some (.int .i64 (tk ts e1).col) := (World.cell?_of_block hSw).trans x3; go_simp; first | done | with_reducible rfl)
       (try simp only [pu, pn, si, s0, sn])
       refine tak (i := 3) (v := ?_) (gt rfl) ?_ ?_
       rotate_left
       focus (intro w_ hSw; (try dsimp only at hSw); have z2 : w_.cell? ⟨g, e1 * 4 + 2, none⟩ = some (.int .i64 (tk ts e1).line) := (World.cell?_of_block hSw).trans x2; have z3 : w_.cell? ⟨g, e1 * 4 + 3, none⟩ = some (.int .i64 (tk ts e1).col) := (World.cell?_of_block hSw).trans x3; go_simp; first | done | with_reducible rfl)
       (try simp only [pu, pn, si, s0, sn])
       refine tak (i := 4) (v := ?_) (gt rfl) ?_ ?_
       rotate_left
       focus (intro w_ hSw; (try dsimp only at hSw); have z2 : w_.cell? ⟨g, e1 * 4 + 2, none⟩ = some (.int .i64 (tk ts e1).line) := (World.cell?_of_block hSw).trans x2; have z3 : w_.cell? ⟨g, e1 * 4 + 3, none⟩ = some (.int .i64 (tk ts e1).col) := (World.cell?_of_block hSw).trans x3; go_simp; first | done | with_reducible rfl)
       (try simp only [pu, pn, si, s0, sn])
       refine tak (i := 5) (v := ?_) (gt rfl) ?_ ?_
       rotate_left
       focus (intro w_ hSw; (try dsimp only at hSw); have z2 : w_.cell? ⟨g, e1 * 4 + 2, none⟩ = some (.int .i64 (tk ts e1).line) := (World.cell?_of_block hSw).trans x2; have z3 : w_.cell? ⟨g, e1 * 4 + 3, none⟩ = some (.int .i64 (tk ts e1).col) := (World.cell?_of_block hSw).trans x3; go_simp; first | done | with_reducible rfl)
       (try simp only [pu, pn, si, s0, sn])
       refine wpAnyH_ready (rs := [6]) (by kernel_rfl) (by simp) ?_
       refine AllReadyH.cons (i := 6) (gt rfl) (fun K hK => ?_) ?_
       ·refine step_store_same rfl 34 (.tmp 2) (.tmp 133) rfl B zeroD (by simp [Act.eval]) (by simp [Act.eval, zeroD]) 34 (by repeat (first | exact kB | with_reducible apply At.drw)) (by kernel_rfl) (by kernel_rfl) ?_
        refine hK.out _ _ ?_ (fun hHeld => ?_)
        ·(try dsimp only); (repeat (first | with_reducible assumption | rfl | (refine (Below.heap_setCell _ _ _ _ (by dsimp only; omega)).trans ?_)))
        clear hK K
        (try simp only [pu, pn, si, s0, sn])
        refine wpAnyH_ready (rs := [7]) (by kernel_rfl) (by simp) ?_
        refine AllReadyH.cons (i := 7) (gt rfl) (fun K hK => ?_) ?_
        ·go_simp
         refine hK.out _ _ ?_ (fun hHeld => ?_)
         ·(try dsimp only); (repeat (first | with_reducible assumption | rfl | (refine (Below.heap_setCell _ _ _ _ (by dsimp only; omega)).trans ?_)))
         clear hK K
         (try simp only [pu, pn, si, s0, sn])
         refine wpAnyH_ready (rs := [8]) (by kernel_rfl) (by simp) ?_
         refine AllReadyH.cons (i := 8) (gt rfl) (fun K hK => ?_) ?_
         ·go_simp
          refine hK.out _ _ ?_ (fun hHeld => ?_)
          ·(try dsimp only); (repeat (first | with_reducible assumption | rfl | (refine (Below.heap_setCell _ _ _ _ (by dsimp only; omega)).trans ?_)))
          clear hK K
          (try simp only [pu, pn, si, s0, sn])
          refine wpAnyH_done (by kernel_rfl) ?_ _
          refine NoPanic.normal ?_
          go_wp2_with fail
          exact bodyPost_ret (hFin.out _ rfl rfl rfl) rfl hPost.out
         exact AllReadyH.nil
        exact AllReadyH.nil
       exact AllReadyH.nil
      | ok y =>
       obtain ⟨n, k'⟩ := y
       replace HNum : Hid (Calls Tryz.prog 63 #[.slice (some ⟨g, 0, none⟩) ts.length cg, .int .i64 (j : Int), .int .i64 (L : Int), .bool bB] wr fun e w' => ∃ v, e = .returned (.tuple #[v, .int .i64 (k' : Int), .bool true]) ∧ Hid (w'.ownsRow wr.heap.size 3 1 v n.length (n.map (Value.int .i64 ·))) ∧ Below wr.heap.size wr w') := Lib.hid (HNum.out.mono fun e w' h => by
        obtain ⟨v, q1, q2⟩ := h.2
        exact ⟨v, q1, Lib.hid q2, h.1⟩)
       have hkl := line_lt hE.out hj hD
       have hk' : k' < ts.length := hkl.2
       go_wp2_with fail
       refine HNum.out.mono ?_
       rintro e w5 ⟨v, rfl, hown, hb5⟩
       (try clear hjw hjw2)
       have hB5 := Lib.hid (hB.out.trans (hb5.mono hXl.out))
       obtain ⟨XE, -, x0, x1, x2, x3⟩ := tok_cells (hTk.out w5 hB5.out) (Below.refl _ _) hk'
       have kX5 := hAt.out.bel hb5
       have hV5 := Lib.hid (hV.out.keep fun b hb => hb5.block b (hV.out.lt hb))
       have hvk : ∀ g', v.ownBlock = some g' → some g' ∉ p.fp := fun g' e q => by
        have a := (own_lt hown.out e).2
        have b := hV.out.lt q
        omega
       have hvI : IsI n v w5 := row_isI (own_row hown.out rfl)
       clear HNum hown
       by_cases hk4 : (tk ts k').kind = 4
       rotate_left
       ·have kB := kB4.out.below hB5.out (by omega)
        have kP := kP4.out.below hB5.out (by omega)
        have hne : ((tk ts k').kind != 4) = true := by simpa using hk4
        have hne2 : ((tk ts k').kind == 4) = false := by simpa using hk4
        clear hb5 kX5 hV5 hvk hvI
        have hWhy : readT ts = .error k' := hG.out.end_ hi h4.out h5.out hwt.out hn.out (by rw [hWT.out]; exact hD) hk4
        have hFin : Hid (∀ tmps : Array Value, tmps.getD 2 undef = .pointer (some ⟨B, 0, none⟩) → tmps.getD 3 undef = .pointer (some ⟨B + 1, 0, none⟩) → tmps.getD 4 undef = .int .i64 7 → (results Tryz.f21 tmps).run Tryz.prog (((w5.setCell ⟨B + 1, 0, none⟩ (.int .i64 (tk ts k').line)).setCell ⟨B + 1, 1, none⟩ (.int .i64 (tk ts k').col)).drew) = .ok (.tuple #[.agg zeroD, .agg #[.int .i64 (tk ts k').line, .int .i64 (tk ts k').col], .int .i64 7]) (((w5.setCell ⟨B + 1, 0, none⟩ (.int .i64 (tk ts k').line)).setCell ⟨B + 1, 1, none⟩ (.int .i64 (tk ts k').col)).drew)) := Lib.hid fun tmps h2 h3 h4 =>
         rread_results tmps _ B _ _ _ h2 h3 h4 ((kB.ne ⟨B + 1, 0, none⟩ _ (by simp)).ne ⟨B + 1, 1, none⟩ _ (by simp)).drw rfl (At.drw (by
          have := (kP.put 0 (.int .i64 (tk ts k').line)).put 1 (.int .i64 (tk ts k').col)
          simpa using this)) rfl
        have hPost : Hid (ReadE (by_ S) w (.returned (.tuple #[.agg zeroD, .agg #[.int .i64 (tk ts k').line, .int .i64 (tk ts k').col], .int .i64 7])) (((w5.setCell ⟨B + 1, 0, none⟩ (.int .i64 (tk ts k').line)).setCell ⟨B + 1, 1, none⟩ (.int .i64 (tk ts k').col)).drew)) := Lib.hid (hErr.out k' _ hWhy (below_drew (below_sc (below_sc (hB5.out.mono (by omega)) (by omega) 0 _) (by omega) 1 _)))
        have p0 : w5.cell? ⟨B + 1, 0, none⟩ = some (.int .i64 0) := kP.c 0
        have p1 : w5.cell? ⟨B + 1, 1, none⟩ = some (.int .i64 0) := kP.c 1
        have pf0 : w5.frozen? ⟨B + 1, 0, none⟩ = false := kP.f 0
        have pf1 : w5.frozen? ⟨B + 1, 1, none⟩ = false := kP.f 1
        clear hWhy kP
        go_upto_region 24 with fail
        refine wp_region_noPanic ?_
        refine wp_region_held_drew (S := (fun W' => W'.heap[g]? = w5.heap[g]?)) (by kernel_rfl) ?_ (fun hHeld => ?_)
        ·(try dsimp only); (repeat (first | with_reducible assumption | rfl | (refine (Below.heap_setCell _ _ _ _ (by dsimp only; omega)).trans ?_)))
        refine tak (i := 0) (v := ?_) (gt rfl) ?_ ?_
        rotate_left
        focus (intro w_ hSw; (try dsimp only at hSw); have z2 : w_.cell? ⟨g, k' * 4 + 2, none⟩ = some (.int .i64 (tk ts k').line) := (World.cell?_of_block hSw).trans x2; have z3 : w_.cell? ⟨g, k' * 4 + 3, none⟩ = some (.int .i64 (tk ts k').col) := (World.cell?_of_block hSw).trans x3; go_simp; first | done | with_reducible rfl)
        (try simp only [pu, pn, si, s0, sn])
        refine tak (i := 1) (v := ?_) (gt rfl) ?_ ?_
        rotate_left
        focus (intro w_ hSw; (try dsimp only at hSw); have z2 : w_.cell? ⟨g, k' * 4 + 2, none⟩ = some (.int .i64 (tk ts k').line) := (World.cell?_of_block hSw).trans x2; have z3 : w_.cell? ⟨g, k' * 4 + 3, none⟩ = some (.int .i64 (tk ts k').col) := (World.cell?_of_block hSw).trans x3; go_simp; first | done | with_reducible rfl)
        (try simp only [pu, pn, si, s0, sn])
        refine tak (i := 2) (v := ?_) (gt rfl) ?_ ?_
        rotate_left
        focus (intro w_ hSw; (try dsimp only at hSw); have z2 : w_.cell? ⟨g, k' * 4 + 2, none⟩ = some (.int .i64 (tk ts k').line) := (World.cell?_of_block hSw).trans x2; have z3 : w_.cell? ⟨g, k' * 4 + 3, none⟩ = some (.int .i64 (tk ts k').col) := (World.cell?_of_block hSw).trans x3; go_simp; first | done | with_reducible rfl)
        (try simp only [pu, pn, si, s0, sn])
        refine tak (i := 3) (v := ?_) (gt rfl) ?_ ?_
        rotate_left
        focus (intro w_ hSw; (try dsimp only at hSw); have z2 : w_.cell? ⟨g, k' * 4 + 2, none⟩ = some (.int .i64 (tk ts k').line) := (World.cell?_of_block hSw).trans x2; have z3 : w_.cell? ⟨g, k' * 4 + 3, none⟩ = some (.int .i64 (tk ts k').col) := (World.cell?_of_block hSw).trans x3; go_simp; first | done | with_reducible rfl)
        (try simp only [pu, pn, si, s0, sn])
        refine tak (i := 4) (v := ?_) (gt rfl) ?_ ?_
        rotate_left
        focus (intro w_ hSw; (try dsimp only at hSw); have z2 : w_.cell? ⟨g, k' * 4 + 2, none⟩ = some (.int .i64 (tk ts k').line) := (World.cell?_of_block hSw).trans x2; have z3 : w_.cell? ⟨g, k' * 4 + 3, none⟩ = some (.int .i64 (tk ts k').col) := (World.cell?_of_block hSw).trans x3; go_simp; first | done | with_reducible rfl)
        (try simp only [pu, pn, si, s0, sn])
        refine tak (i := 5) (v := ?_) (gt rfl) ?_ ?_
        rotate_left
        focus (intro w_ hSw; (try dsimp only at hSw); have z2 : w_.cell? ⟨g, k' * 4 + 2, none⟩ = some (.int .i64 (tk ts k').line) := (World.cell?_of_block hSw).trans x2; have z3 : w_.cell? ⟨g, k' * 4 + 3, none⟩ = some (.int .i64 (tk ts k').col) := (World.cell?_of_block hSw).trans x3; go_simp; first | done | with_reducible rfl)
        (try simp only [pu, pn, si, s0, sn])
        refine wpAnyH_ready (rs := [6]) (by kernel_rfl) (by simp) ?_
        refine AllReadyH.cons (i := 6) (gt rfl) (fun K hK => ?_) ?_
        ·refine step_store_same rfl 34 (.tmp 2) (.tmp 133) rfl B zeroD (by simp [Act.eval]) (by simp [Act.eval, zeroD]) 34 (by repeat (first | exact kB | with_reducible apply At.drw)) (by kernel_rfl) (by kernel_rfl) ?_
         refine hK.out _ _ ?_ (fun hHeld => ?_)
         ·(try dsimp only); (repeat (first | with_reducible assumption | rfl | (refine (Below.heap_setCell _ _ _ _ (by dsimp only; omega)).trans ?_)))
         clear hK K
         (try simp only [pu, pn, si, s0, sn])
         refine wpAnyH_ready (rs := [7]) (by kernel_rfl) (by simp) ?_
         refine AllReadyH.cons (i := 7) (gt rfl) (fun K hK => ?_) ?_
         ·go_simp
          refine hK.out _ _ ?_ (fun hHeld => ?_)
          ·(try dsimp only); (repeat (first | with_reducible assumption | rfl | (refine (Below.heap_setCell _ _ _ _ (by dsimp only; omega)).trans ?_)))
          clear hK K
          (try simp only [pu, pn, si, s0, sn])
          refine wpAnyH_ready (rs := [8]) (by kernel_rfl) (by simp) ?_
          refine AllReadyH.cons (i := 8) (gt rfl) (fun K hK => ?_) ?_
          ·go_simp
           refine hK.out _ _ ?_ (fun hHeld => ?_)
           ·(try dsimp only); (repeat (first | with_reducible assumption | rfl | (refine (Below.heap_setCell _ _ _ _ (by dsimp only; omega)).trans ?_)))
           clear hK K
           (try simp only [pu, pn, si, s0, sn])
           refine wpAnyH_done (by kernel_rfl) ?_ _
           refine NoPanic.normal ?_
           go_wp2_with fail
           exact bodyPost_ret (hFin.out _ rfl rfl rfl) rfl hPost.out
          exact AllReadyH.nil
         exact AllReadyH.nil
        exact AllReadyH.nil
       ·have hNx := hG.out.next hE.out hi h4.out h5.out hwt.out hn.out (by rw [hWT.out]; exact hD) hk4
        rw [hWT.out] at hNx
        have hPu := Lib.hid (putL_any (X + 1) d p w5 (by have := kX5.lt; omega) hV5.out (fun b hb => hfp.out b hb) (by have := hG.out.1; have := hE.out.len; omega) WT nm n v hvI hvk hW0.out (line_len hD) (by have := dims_len hD; have := hE.out.len; omega) hst.out)
        rw [hWT2.out, hNM2.out] at hPu
        rw [hk4] at x0
        replace hk4 := Lib.hid hk4
        have hsz5 := detC_size d p
        go_wp2_with (first | (refine wpList_load_row rfl 34 (.tmp 8) rfl X (by simp [Act.eval]) 34 (detC d p) (0, 0) _ kX5 Tryz.underlying34 rfl (by rw [hsz5]; kernel_rfl) ?_) | fail)
        refine hPu.out.mono ?_
        rintro e w6 ⟨p', rfl, hV6, hfp6, hb6⟩
        have kX6 := kX5.below hb6 (by omega)
        have h1c := detC_one hV6
        have hs6 := detC_size (putD d WT nm n) p'
        have hB7 : Hid (Below X W4 (w6.setRow X (detC (putD d WT nm n) p'))) := Lib.hid (below_row (hB5.out.trans (hb6.mono (by omega))) (Nat.le_refl X) _)
        have hA7 : Hid (At (w6.setRow X (detC (putD d WT nm n) p')) X 34 (detC (putD d WT nm n) p')) := Lib.hid kX6.rowAt
        have hV7 : Hid (RdV (w6.setRow X (detC (putD d WT nm n) p')) (putD d WT nm n) p') := Lib.hid (hV6.keep fun b hb => setRow_other w6 X b _ (by have := hfp6 b hb; omega))
        have hf7 : Hid (∀ b, some b ∈ p'.fp → X < b) := Lib.hid fun b hb => by have := hfp6 b hb; omega
        have hG7 : Hid (RefG ts k' (putD d WT nm n) true rr) := Lib.hid (by rw [← hrr0.out]; exact hNx.1)
        have hik : i < k' := hNx.2
        clear hPu hV6 hfp6 hb6 hb5 hV5 kX5 hvk hvI hNx hk4 hD
        go_upto_region 26 with (first | (refine wpList_store_row rfl 34 (.tmp 8) (.tmp 143) rfl X (detC (putD d WT nm n) p') (by simp [Act.eval, Act.put]) (by simp [Act.eval, Act.put]) 34 _ kX6 (by rw [hs6]; kernel_rfl) (by rw [hs6, detC_size]) h1c ?_; generalize hW7 : World.setRow _ _ _ = W7 at *) | fail)
        clear hW7 kX6 x0 x1 x2 x3 hs6 hsz5 h1c
        cases r with
        | true =>
         go_wp2_with fail
         (try clear hkw hkw2)
         (try clear hjw hjw2)
         go_roundg (ts.length - k')
         case measure => have := hgm.out; omega
         case rel => exact ⟨k', putD d WT nm n, p', true, true, rfl, rfl, by go_num, Lib.hid rfl, hk', by have := hrr.out; rw [Bool.true_or] at this; rw [← this] at hG7; exact hG7, hA7, hV7, hf7, hB7⟩
        | false =>
         go_wp2_with fail
         (try clear hkw hkw2)
         (try clear hjw hjw2)
         go_roundg (ts.length - k')
         case measure => have := hgm.out; omega
         case rel => exact ⟨k', putD d WT nm n, p', true, bR, rfl, rfl, by go_num, Lib.hid rfl, hk', by have := hrr.out; rw [Bool.false_or] at this; rw [← this] at hG7; exact hG7, hA7, hV7, hf7, hB7⟩
     | true =>
      obtain ⟨XS1, hXS1, x0, x1, x2, x3⟩ := tok_cells (hTk.out wr hB.out) (Below.refl _ _) hi2
      by_cases hk1 : (tk ts i1).kind = 1
      rotate_left
      ·have hne : ((tk ts i1).kind != 1) = true := by simpa using hk1
       have hne2 : ((tk ts i1).kind == 1) = false := by simpa using hk1
       have kB := kB4.out.below hB.out (by omega)
       have kP := kP4.out.below hB.out (by omega)
       have hWhy : readT ts = .error i1 := hG.out.name hi h4.out h5.out hwt.out (by unfold nameG; rw [hWT.out, if_pos hbN.out]; unfold nameT; rw [hi1.out, if_neg hk1])
       have hFin : Hid (∀ tmps : Array Value, tmps.getD 2 undef = .pointer (some ⟨B, 0, none⟩) → tmps.getD 3 undef = .pointer (some ⟨B + 1, 0, none⟩) → tmps.getD 4 undef = .int .i64 7 → (results Tryz.f21 tmps).run Tryz.prog (((wr.setCell ⟨B + 1, 0, none⟩ (.int .i64 (tk ts i1).line)).setCell ⟨B + 1, 1, none⟩ (.int .i64 (tk ts i1).col)).drew) = .ok (.tuple #[.agg zeroD, .agg #[.int .i64 (tk ts i1).line, .int .i64 (tk ts i1).col], .int .i64 7]) (((wr.setCell ⟨B + 1, 0, none⟩ (.int .i64 (tk ts i1).line)).setCell ⟨B + 1, 1, none⟩ (.int .i64 (tk ts i1).col)).drew)) := Lib.hid fun tmps h2 h3 h4 =>
        rread_results tmps _ B _ _ _ h2 h3 h4 ((kB.ne ⟨B + 1, 0, none⟩ _ (by simp)).ne ⟨B + 1, 1, none⟩ _ (by simp)).drw rfl (At.drw (by
         have := (kP.put 0 (.int .i64 (tk ts i1).line)).put 1 (.int .i64 (tk ts i1).col)
         simpa using this)) rfl
       have hPost : Hid (ReadE (by_ S) w (.returned (.tuple #[.agg zeroD, .agg #[.int .i64 (tk ts i1).line, .int .i64 (tk ts i1).col], .int .i64 7])) (((wr.setCell ⟨B + 1, 0, none⟩ (.int .i64 (tk ts i1).line)).setCell ⟨B + 1, 1, none⟩ (.int .i64 (tk ts i1).col)).drew)) := Lib.hid (hErr.out i1 _ hWhy (below_drew (below_sc (below_sc (hB.out.mono (by omega)) (by omega) 0 _) (by omega) 1 _)))
       have p0 : wr.cell? ⟨B + 1, 0, none⟩ = some (.int .i64 0) := kP.c 0
       have p1 : wr.cell? ⟨B + 1, 1, none⟩ = some (.int .i64 0) := kP.c 1
       have pf0 : wr.frozen? ⟨B + 1, 0, none⟩ = false := kP.f 0
       have pf1 : wr.frozen? ⟨B + 1, 1, none⟩ = false := kP.f 1
       clear hWhy kP
       go_upto_region 18 with fail
       refine wp_region_noPanic ?_
       refine wp_region_held_drew (S := (fun W' => W'.heap[g]? = wr.heap[g]?)) (by kernel_rfl) ?_ (fun hHeld => ?_)
       ·(try dsimp only); (repeat (first | with_reducible assumption | rfl | (refine (Below.heap_setCell _ _ _ _ (by dsimp only; omega)).trans ?_)))
       refine tak (i := 0) (v := ?_) (gt rfl) ?_ ?_
       rotate_left
       focus (intro w_ hSw; (try dsimp only at hSw); have z2 : w_.cell? ⟨g, i1 * 4 + 2, none⟩ = some (.int .i64 (tk ts i1).line) := (World.cell?_of_block hSw).trans x2; have z3 : w_.cell? ⟨g, i1 * 4 + 3, none⟩ = some (.int .i64 (tk ts i1).col) := (World.cell?_of_block hSw).trans x3; go_simp; first | done | with_reducible rfl)
       (try simp only [pu, pn, si, s0, sn])
       refine tak (i := 1) (v := ?_) (gt rfl) ?_ ?_
       rotate_left
       focus (intro w_ hSw; (try dsimp only at hSw); have z2 : w_.cell? ⟨g, i1 * 4 + 2, none⟩ = some (.int .i64 (tk ts i1).line) := (World.cell?_of_block hSw).trans x2; have z3 : w_.cell? ⟨g, i1 * 4 + 3, none⟩ = some (.int .i64 (tk ts i1).col) := (World.cell?_of_block hSw).trans x3; go_simp; first | done | with_reducible rfl)
       (try simp only [pu, pn, si, s0, sn])
       refine tak (i := 2) (v := ?_) (gt rfl) ?_ ?_
       rotate_left
       focus (intro w_ hSw; (try dsimp only at hSw); have z2 : w_.cell? ⟨g, i1 * 4 + 2, none⟩ = some (.int .i64 (tk ts i1).line) := (World.cell?_of_block hSw).trans x2; have z3 : w_.cell? ⟨g, i1 * 4 + 3, none⟩ = some (.int .i64 (tk ts i1).col) := (World.cell?_of_block hSw).trans x3; go_simp; first | done | with_reducible rfl)
       (try simp only [pu, pn, si, s0, sn])
       refine tak (i := 3) (v := ?_) (gt rfl) ?_ ?_
       rotate_left
       focus (intro w_ hSw; (try dsimp only at hSw); have z2 : w_.cell? ⟨g, i1 * 4 + 2, none⟩ = some (.int .i64 (tk ts i1).line) := (World.cell?_of_block hSw).trans x2; have z3 : w_.cell? ⟨g, i1 * 4 + 3, none⟩ = some (.int .i64 (tk ts i1).col) := (World.cell?_of_block hSw).trans x3; go_simp; first | done | with_reducible rfl)
       (try simp only [pu, pn, si, s0, sn])
       refine tak (i := 4) (v := ?_) (gt rfl) ?_ ?_
       rotate_left
       focus (intro w_ hSw; (try dsimp only at hSw); have z2 : w_.cell? ⟨g, i1 * 4 + 2, none⟩ = some (.int .i64 (tk ts i1).line) := (World.cell?_of_block hSw).trans x2; have z3 : w_.cell? ⟨g, i1 * 4 + 3, none⟩ = some (.int .i64 (tk ts i1).col) := (World.cell?_of_block hSw).trans x3; go_simp; first | done | with_reducible rfl)
       (try simp only [pu, pn, si, s0, sn])
       refine tak (i := 5) (v := ?_) (gt rfl) ?_ ?_
       rotate_left
       focus (intro w_ hSw; (try dsimp only at hSw); have z2 : w_.cell? ⟨g, i1 * 4 + 2, none⟩ = some (.int .i64 (tk ts i1).line) := (World.cell?_of_block hSw).trans x2; have z3 : w_.cell? ⟨g, i1 * 4 + 3, none⟩ = some (.int .i64 (tk ts i1).col) := (World.cell?_of_block hSw).trans x3; go_simp; first | done | with_reducible rfl)
       (try simp only [pu, pn, si, s0, sn])
       refine wpAnyH_ready (rs := [6]) (by kernel_rfl) (by simp) ?_
       refine AllReadyH.cons (i := 6) (gt rfl) (fun K hK => ?_) ?_
       ·refine step_store_same rfl 34 (.tmp 2) (.tmp 99) rfl B zeroD (by simp [Act.eval]) (by simp [Act.eval, zeroD]) 34 (by repeat (first | exact kB | with_reducible apply At.drw)) (by kernel_rfl) (by kernel_rfl) ?_
        refine hK.out _ _ ?_ (fun hHeld => ?_)
        ·(try dsimp only); (repeat (first | with_reducible assumption | rfl | (refine (Below.heap_setCell _ _ _ _ (by dsimp only; omega)).trans ?_)))
        clear hK K
        (try simp only [pu, pn, si, s0, sn])
        refine wpAnyH_ready (rs := [7]) (by kernel_rfl) (by simp) ?_
        refine AllReadyH.cons (i := 7) (gt rfl) (fun K hK => ?_) ?_
        ·go_simp
         refine hK.out _ _ ?_ (fun hHeld => ?_)
         ·(try dsimp only); (repeat (first | with_reducible assumption | rfl | (refine (Below.heap_setCell _ _ _ _ (by dsimp only; omega)).trans ?_)))
         clear hK K
         (try simp only [pu, pn, si, s0, sn])
         refine wpAnyH_ready (rs := [8]) (by kernel_rfl) (by simp) ?_
         refine AllReadyH.cons (i := 8) (gt rfl) (fun K hK => ?_) ?_
         ·go_simp
          refine hK.out _ _ ?_ (fun hHeld => ?_)
          ·(try dsimp only); (repeat (first | with_reducible assumption | rfl | (refine (Below.heap_setCell _ _ _ _ (by dsimp only; omega)).trans ?_)))
          clear hK K
          (try simp only [pu, pn, si, s0, sn])
          refine wpAnyH_done (by kernel_rfl) ?_ _
          refine NoPanic.normal ?_
          go_wp2_with fail
          exact bodyPost_ret (hFin.out _ rfl rfl rfl) rfl hPost.out
         exact AllReadyH.nil
        exact AllReadyH.nil
       exact AllReadyH.nil
      ·have hj0 : i1 + 1 < ts.length := hE.out.more i1 hi2 (by rw [hk1]; decide)
       obtain ⟨j, hjj⟩ : ∃ j, i1 + 1 = j := ⟨_, rfl⟩
       have hj : j < ts.length := by rw [← hjj]; exact hj0
       have hjw : IntKind.i64.wrap ((i1 : Int) + 1) = (j : Int) := wrap_next hjj hi2 hLen
       have hjw2 : wrap64 ((i1 : Int) + 1) = (j : Int) := wrap_next2 hjj hi2 hLen
       obtain ⟨nm, hnm⟩ : ∃ nm, (tk ts i1).text = nm := ⟨_, rfl⟩
       have hn : Hid (nameG ts (tk ts i).text i = .ok (nm, j)) := Lib.hid (by unfold nameG; rw [hWT.out, if_pos hbN.out, hi1.out]; unfold nameT; rw [if_pos hk1, hnm, hjj])
       have hNM2 : Hid ((⟨nm.toArray⟩ : ByteArray) = XS1) := Lib.hid (by rw [← hnm, ← hXS1]; first | done | exact by_mk XS1)
       rw [hk1] at x0
       clear hk1 hj0 hXS1 hnm hjj
       have HNum := Lib.hid (rnumbers_any ts hE.out wr g cg (hTk.out wr hB.out) j L bB hj hL9)
       rw [hlin.out j] at HNum
       obtain ⟨D, hD⟩ : ∃ D, lineT ts WT j = D := ⟨_, rfl⟩
       rw [hD] at HNum
       cases D with
       | error e1 =>
        have he1 : e1 < ts.length := line_err_lt hE.out hj hD
        replace HNum : Hid (Calls Tryz.prog 63 #[.slice (some ⟨g, 0, none⟩) ts.length cg, .int .i64 (j : Int), .int .i64 (L : Int), .bool bB] wr fun e w' => e = .returned (.tuple #[.slice none 0 0, .int .i64 (e1 : Int), .bool false]) ∧ Below wr.heap.size wr w') := Lib.hid (HNum.out.mono fun e w' h => ⟨h.2, h.1⟩)
        go_wp2_with fail
        refine HNum.out.mono ?_
        rintro e w5 ⟨rfl, hb5⟩
        (try clear hjw hjw2)
        have hB5 := Lib.hid (hB.out.trans (hb5.mono hXl.out))
        obtain ⟨XE, -, x0, x1, x2, x3⟩ := tok_cells (hTk.out w5 hB5.out) (Below.refl _ _) he1
        have kB := kB4.out.below hB5.out (by omega)
        have kP := kP4.out.below hB5.out (by omega)
        clear hb5 HNum
        have hWhy : readT ts = .error e1 := hG.out.nums hi h4.out h5.out hwt.out hn.out (by rw [hWT.out]; exact hD)
        have hFin : Hid (∀ tmps : Array Value, tmps.getD 2 undef = .pointer (some ⟨B, 0, none⟩) → tmps.getD 3 undef = .pointer (some ⟨B + 1, 0, none⟩) → tmps.getD 4 undef = .int .i64 7 → (results Tryz.f21 tmps).run Tryz.prog (((w5.setCell ⟨B + 1, 0, none⟩ (.int .i64 (tk ts e1).line)).setCell ⟨B + 1, 1, none⟩ (.int .i64 (tk ts e1).col)).drew) = .ok (.tuple #[.agg zeroD, .agg #[.int .i64 (tk ts e1).line, .int .i64 (tk ts e1).col], .int .i64 7]) (((w5.setCell ⟨B + 1, 0, none⟩ (.int .i64 (tk ts e1).line)).setCell ⟨B + 1, 1, none⟩ (.int .i64 (tk ts e1).col)).drew)) := Lib.hid fun tmps h2 h3 h4 =>
         rread_results tmps _ B _ _ _ h2 h3 h4 ((kB.ne ⟨B + 1, 0, none⟩ _ (by simp)).ne ⟨B + 1, 1, none⟩ _ (by simp)).drw rfl (At.drw (by
          have := (kP.put 0 (.int .i64 (tk ts e1).line)).put 1 (.int .i64 (tk ts e1).col)
          simpa using this)) rfl
        have hPost : Hid (ReadE (by_ S) w (.returned (.tuple #[.agg zeroD, .agg #[.int .i64 (tk ts e1).line, .int .i64 (tk ts e1).col], .int .i64 7])) (((w5.setCell ⟨B + 1, 0, none⟩ (.int .i64 (tk ts e1).line)).setCell ⟨B + 1, 1, none⟩ (.int .i64 (tk ts e1).col)).drew)) := Lib.hid (hErr.out e1 _ hWhy (below_drew (below_sc (below_sc (hB5.out.mono (by omega)) (by omega) 0 _) (by omega) 1 _)))
        have p0 : w5.cell? ⟨B + 1, 0, none⟩ = some (.int .i64 0) := kP.c 0
        have p1 : w5.cell? ⟨B + 1, 1, none⟩ = some (.int .i64 0) := kP.c 1
        have pf0 : w5.frozen? ⟨B + 1, 0, none⟩ = false := kP.f 0
        have pf1 : w5.frozen? ⟨B + 1, 1, none⟩ = false := kP.f 1
        clear hWhy kP
        go_upto_region 24 with fail
        refine wp_region_noPanic ?_
        refine wp_region_held_drew (S := (fun W' => W'.heap[g]? = w5.heap[g]?)) (by kernel_rfl) ?_ (fun hHeld => ?_)
        ·(try dsimp only); (repeat (first | with_reducible assumption | rfl | (refine (Below.heap_setCell _ _ _ _ (by dsimp only; omega)).trans ?_)))
        refine tak (i := 0) (v := ?_) (gt rfl) ?_ ?_
        rotate_left
        focus (intro w_ hSw; (try dsimp only at hSw); have z2 : w_.cell? ⟨g, e1 * 4 + 2, none⟩ = some (.int .i64 (tk ts e1).line) := (World.cell?_of_block hSw).trans x2; have z3 : w_.cell? ⟨g, e1 * 4 + 3, none⟩ = some (.int .i64 (tk ts e1).col) := (World.cell?_of_block hSw).trans x3; go_simp; first | done | with_reducible rfl)
        (try simp only [pu, pn, si, s0, sn])
        refine tak (i := 1) (v := ?_) (gt rfl) ?_ ?_
        rotate_left
        focus (intro w_ hSw; (try dsimp only at hSw); have z2 : w_.cell? ⟨g, e1 * 4 + 2, none⟩ = some (.int .i64 (tk ts e1).line) := (World.cell?_of_block hSw).trans x2; have z3 : w_.cell? ⟨g, e1 * 4 + 3, none⟩ = some (.int .i64 (tk ts e1).col) := (World.cell?_of_block hSw).trans x3; go_simp; first | done | with_reducible rfl)
        (try simp only [pu, pn, si, s0, sn])
        refine tak (i := 2) (v := ?_) (gt rfl) ?_ ?_
        rotate_left
        focus (intro w_ hSw; (try dsimp only at hSw); have z2 : w_.cell? ⟨g, e1 * 4 + 2, none⟩ = some (.int .i64 (tk ts e1).line) := (World.cell?_of_block hSw).trans x2; have z3 : w_.cell? ⟨g, e1 * 4 + 3, none⟩ = some (.int .i64 (tk ts e1).col) := (World.cell?_of_block hSw).trans x3; go_simp; first | done | with_reducible rfl)
        (try simp only [pu, pn, si, s0, sn])
        refine tak (i := 3) (v := ?_) (gt rfl) ?_ ?_
        rotate_left
        focus (intro w_ hSw; (try dsimp only at hSw); have z2 : w_.cell? ⟨g, e1 * 4 + 2, none⟩ = some (.int .i64 (tk ts e1).line) := (World.cell?_of_block hSw).trans x2; have z3 : w_.cell? ⟨g, e1 * 4 + 3, none⟩ = some (.int .i64 (tk ts e1).col) := (World.cell?_of_block hSw).trans x3; go_simp; first | done | with_reducible rfl)
        (try simp only [pu, pn, si, s0, sn])
        refine tak (i := 4) (v := ?_) (gt rfl) ?_ ?_
        rotate_left
        focus (intro w_ hSw; (try dsimp only at hSw); have z2 : w_.cell? ⟨g, e1 * 4 + 2, none⟩ = some (.int .i64 (tk ts e1).line) := (World.cell?_of_block hSw).trans x2; have z3 : w_.cell? ⟨g, e1 * 4 + 3, none⟩ = some (.int .i64 (tk ts e1).col) := (World.cell?_of_block hSw).trans x3; go_simp; first | done | with_reducible rfl)
        (try simp only [pu, pn, si, s0, sn])
        refine tak (i := 5) (v := ?_) (gt rfl) ?_ ?_
        rotate_left
        focus (intro w_ hSw; (try dsimp only at hSw); have z2 : w_.cell? ⟨g, e1 * 4 + 2, none⟩ = some (.int .i64 (tk ts e1).line) := (World.cell?_of_block hSw).trans x2; have z3 : w_.cell? ⟨g, e1 * 4 + 3, none⟩ = some (.int .i64 (tk ts e1).col) := (World.cell?_of_block hSw).trans x3; go_simp; first | done | with_reducible rfl)
        (try simp only [pu, pn, si, s0, sn])
        refine wpAnyH_ready (rs := [6]) (by kernel_rfl) (by simp) ?_
        refine AllReadyH.cons (i := 6) (gt rfl) (fun K hK => ?_) ?_
        ·refine step_store_same rfl 34 (.tmp 2) (.tmp 133) rfl B zeroD (by simp [Act.eval]) (by simp [Act.eval, zeroD]) 34 (by repeat (first | exact kB | with_reducible apply At.drw)) (by kernel_rfl) (by kernel_rfl) ?_
         refine hK.out _ _ ?_ (fun hHeld => ?_)
         ·(try dsimp only); (repeat (first | with_reducible assumption | rfl | (refine (Below.heap_setCell _ _ _ _ (by dsimp only; omega)).trans ?_)))
         clear hK K
         (try simp only [pu, pn, si, s0, sn])
         refine wpAnyH_ready (rs := [7]) (by kernel_rfl) (by simp) ?_
         refine AllReadyH.cons (i := 7) (gt rfl) (fun K hK => ?_) ?_
         ·go_simp
          refine hK.out _ _ ?_ (fun hHeld => ?_)
          ·(try dsimp only); (repeat (first | with_reducible assumption | rfl | (refine (Below.heap_setCell _ _ _ _ (by dsimp only; omega)).trans ?_)))
          clear hK K
          (try simp only [pu, pn, si, s0, sn])
          refine wpAnyH_ready (rs := [8]) (by kernel_rfl) (by simp) ?_
          refine AllReadyH.cons (i := 8) (gt rfl) (fun K hK => ?_) ?_
          ·go_simp
           refine hK.out _ _ ?_ (fun hHeld => ?_)
           ·(try dsimp only); (repeat (first | with_reducible assumption | rfl | (refine (Below.heap_setCell _ _ _ _ (by dsimp only; omega)).trans ?_)))
           clear hK K
           (try simp only [pu, pn, si, s0, sn])
           refine wpAnyH_done (by kernel_rfl) ?_ _
           refine NoPanic.normal ?_
           go_wp2_with fail
           exact bodyPost_ret (hFin.out _ rfl rfl rfl) rfl hPost.out
          exact AllReadyH.nil
         exact AllReadyH.nil
        exact AllReadyH.nil
       | ok y =>
        obtain ⟨n, k'⟩ := y
        replace HNum : Hid (Calls Tryz.prog 63 #[.slice (some ⟨g, 0, none⟩) ts.length cg, .int .i64 (j : Int), .int .i64 (L : Int), .bool bB] wr fun e w' => ∃ v, e = .returned (.tuple #[v, .int .i64 (k' : Int), .bool true]) ∧ Hid (w'.ownsRow wr.heap.size 3 1 v n.length (n.map (Value.int .i64 ·))) ∧ Below wr.heap.size wr w') := Lib.hid (HNum.out.mono fun e w' h => by
         obtain ⟨v, q1, q2⟩ := h.2
         exact ⟨v, q1, Lib.hid q2, h.1⟩)
        have hkl := line_lt hE.out hj hD
        have hk' : k' < ts.length := hkl.2
        go_wp2_with fail
        refine HNum.out.mono ?_
        rintro e w5 ⟨v, rfl, hown, hb5⟩
        (try clear hjw hjw2)
        have hB5 := Lib.hid (hB.out.trans (hb5.mono hXl.out))
        obtain ⟨XE, -, x0, x1, x2, x3⟩ := tok_cells (hTk.out w5 hB5.out) (Below.refl _ _) hk'
        have kX5 := hAt.out.bel hb5
        have hV5 := Lib.hid (hV.out.keep fun b hb => hb5.block b (hV.out.lt hb))
        have hvk : ∀ g', v.ownBlock = some g' → some g' ∉ p.fp := fun g' e q => by
         have a := (own_lt hown.out e).2
         have b := hV.out.lt q
         omega
        have hvI : IsI n v w5 := row_isI (own_row hown.out rfl)
        clear HNum hown
        by_cases hk4 : (tk ts k').kind = 4
        rotate_left
        ·have kB := kB4.out.below hB5.out (by omega)
         have kP := kP4.out.below hB5.out (by omega)
         have hne : ((tk ts k').kind != 4) = true := by simpa using hk4
         have hne2 : ((tk ts k').kind == 4) = false := by simpa using hk4
         clear hb5 kX5 hV5 hvk hvI
         have hWhy : readT ts = .error k' := hG.out.end_ hi h4.out h5.out hwt.out hn.out (by rw [hWT.out]; exact hD) hk4
         have hFin : Hid (∀ tmps : Array Value, tmps.getD 2 undef = .pointer (some ⟨B, 0, none⟩) → tmps.getD 3 undef = .pointer (some ⟨B + 1, 0, none⟩) → tmps.getD 4 undef = .int .i64 7 → (results Tryz.f21 tmps).run Tryz.prog (((w5.setCell ⟨B + 1, 0, none⟩ (.int .i64 (tk ts k').line)).setCell ⟨B + 1, 1, none⟩ (.int .i64 (tk ts k').col)).drew) = .ok (.tuple #[.agg zeroD, .agg #[.int .i64 (tk ts k').line, .int .i64 (tk ts k').col], .int .i64 7]) (((w5.setCell ⟨B + 1, 0, none⟩ (.int .i64 (tk ts k').line)).setCell ⟨B + 1, 1, none⟩ (.int .i64 (tk ts k').col)).drew)) := Lib.hid fun tmps h2 h3 h4 =>
          rread_results tmps _ B _ _ _ h2 h3 h4 ((kB.ne ⟨B + 1, 0, none⟩ _ (by simp)).ne ⟨B + 1, 1, none⟩ _ (by simp)).drw rfl (At.drw (by
           have := (kP.put 0 (.int .i64 (tk ts k').line)).put 1 (.int .i64 (tk ts k').col)
           simpa using this)) rfl
         have hPost : Hid (ReadE (by_ S) w (.returned (.tuple #[.agg zeroD, .agg #[.int .i64 (tk ts k').line, .int .i64 (tk ts k').col], .int .i64 7])) (((w5.setCell ⟨B + 1, 0, none⟩ (.int .i64 (tk ts k').line)).setCell ⟨B + 1, 1, none⟩ (.int .i64 (tk ts k').col)).drew)) := Lib.hid (hErr.out k' _ hWhy (below_drew (below_sc (below_sc (hB5.out.mono (by omega)) (by omega) 0 _) (by omega) 1 _)))
         have p0 : w5.cell? ⟨B + 1, 0, none⟩ = some (.int .i64 0) := kP.c 0
         have p1 : w5.cell? ⟨B + 1, 1, none⟩ = some (.int .i64 0) := kP.c 1
         have pf0 : w5.frozen? ⟨B + 1, 0, none⟩ = false := kP.f 0
         have pf1 : w5.frozen? ⟨B + 1, 1, none⟩ = false := kP.f 1
         clear hWhy kP
         go_upto_region 24 with fail
         refine wp_region_noPanic ?_
         refine wp_region_held_drew (S := (fun W' => W'.heap[g]? = w5.heap[g]?)) (by kernel_rfl) ?_ (fun hHeld => ?_)
         ·(try dsimp only); (repeat (first | with_reducible assumption | rfl | (refine (Below.heap_setCell _ _ _ _ (by dsimp only; omega)).trans ?_)))
         refine tak (i := 0) (v := ?_) (gt rfl) ?_ ?_
         rotate_left
         focus (intro w_ hSw; (try dsimp only at hSw); have z2 : w_.cell? ⟨g, k' * 4 + 2, none⟩ = some (.int .i64 (tk ts k').line) := (World.cell?_of_block hSw).trans x2; have z3 : w_.cell? ⟨g, k' * 4 + 3, none⟩ = some (.int .i64 (tk ts k').col) := (World.cell?_of_block hSw).trans x3; go_simp; first | done | with_reducible rfl)
         (try simp only [pu, pn, si, s0, sn])
         refine tak (i := 1) (v := ?_) (gt rfl) ?_ ?_
         rotate_left
         focus (intro w_ hSw; (try dsimp only at hSw); have z2 : w_.cell? ⟨g, k' * 4 + 2, none⟩ = some (.int .i64 (tk ts k').line) := (World.cell?_of_block hSw).trans x2; have z3 : w_.cell? ⟨g, k' * 4 + 3, none⟩ = some (.int .i64 (tk ts k').col) := (World.cell?_of_block hSw).trans x3; go_simp; first | done | with_reducible rfl)
         (try simp only [pu, pn, si, s0, sn])
         refine tak (i := 2) (v := ?_) (gt rfl) ?_ ?_
         rotate_left
         focus (intro w_ hSw; (try dsimp only at hSw); have z2 : w_.cell? ⟨g, k' * 4 + 2, none⟩ = some (.int .i64 (tk ts k').line) := (World.cell?_of_block hSw).trans x2; have z3 : w_.cell? ⟨g, k' * 4 + 3, none⟩ = some (.int .i64 (tk ts k').col) := (World.cell?_of_block hSw).trans x3; go_simp; first | done | with_reducible rfl)
         (try simp only [pu, pn, si, s0, sn])
         refine tak (i := 3) (v := ?_) (gt rfl) ?_ ?_
         rotate_left
         focus (intro w_ hSw; (try dsimp only at hSw); have z2 : w_.cell? ⟨g, k' * 4 + 2, none⟩ = some (.int .i64 (tk ts k').line) := (World.cell?_of_block hSw).trans x2; have z3 : w_.cell? ⟨g, k' * 4 + 3, none⟩ = some (.int .i64 (tk ts k').col) := (World.cell?_of_block hSw).trans x3; go_simp; first | done | with_reducible rfl)
         (try simp only [pu, pn, si, s0, sn])
         refine tak (i := 4) (v := ?_) (gt rfl) ?_ ?_
         rotate_left
         focus (intro w_ hSw; (try dsimp only at hSw); have z2 : w_.cell? ⟨g, k' * 4 + 2, none⟩ = some (.int .i64 (tk ts k').line) := (World.cell?_of_block hSw).trans x2; have z3 : w_.cell? ⟨g, k' * 4 + 3, none⟩ = some (.int .i64 (tk ts k').col) := (World.cell?_of_block hSw).trans x3; go_simp; first | done | with_reducible rfl)
         (try simp only [pu, pn, si, s0, sn])
         refine tak (i := 5) (v := ?_) (gt rfl) ?_ ?_
         rotate_left
         focus (intro w_ hSw; (try dsimp only at hSw); have z2 : w_.cell? ⟨g, k' * 4 + 2, none⟩ = some (.int .i64 (tk ts k').line) := (World.cell?_of_block hSw).trans x2; have z3 : w_.cell? ⟨g, k' * 4 + 3, none⟩ = some (.int .i64 (tk ts k').col) := (World.cell?_of_block hSw).trans x3; go_simp; first | done | with_reducible rfl)
         (try simp only [pu, pn, si, s0, sn])
         refine wpAnyH_ready (rs := [6]) (by kernel_rfl) (by simp) ?_
         refine AllReadyH.cons (i := 6) (gt rfl) (fun K hK => ?_) ?_
         ·refine step_store_same rfl 34 (.tmp 2) (.tmp 133) rfl B zeroD (by simp [Act.eval]) (by simp [Act.eval, zeroD]) 34 (by repeat (first | exact kB | with_reducible apply At.drw)) (by kernel_rfl) (by kernel_rfl) ?_
          refine hK.out _ _ ?_ (fun hHeld => ?_)
          ·(try dsimp only); (repeat (first | with_reducible assumption | rfl | (refine (Below.heap_setCell _ _ _ _ (by dsimp only; omega)).trans ?_)))
          clear hK K
          (try simp only [pu, pn, si, s0, sn])
          refine wpAnyH_ready (rs := [7]) (by kernel_rfl) (by simp) ?_
          refine AllReadyH.cons (i := 7) (gt rfl) (fun K hK => ?_) ?_
          ·go_simp
           refine hK.out _ _ ?_ (fun hHeld => ?_)
           ·(try dsimp only); (repeat (first | with_reducible assumption | rfl | (refine (Below.heap_setCell _ _ _ _ (by dsimp only; omega)).trans ?_)))
           clear hK K
           (try simp only [pu, pn, si, s0, sn])
           refine wpAnyH_ready (rs := [8]) (by kernel_rfl) (by simp) ?_
           refine AllReadyH.cons (i := 8) (gt rfl) (fun K hK => ?_) ?_
           ·go_simp
            refine hK.out _ _ ?_ (fun hHeld => ?_)
            ·(try dsimp only); (repeat (first | with_reducible assumption | rfl | (refine (Below.heap_setCell _ _ _ _ (by dsimp only; omega)).trans ?_)))
            clear hK K
            (try simp only [pu, pn, si, s0, sn])
            refine wpAnyH_done (by kernel_rfl) ?_ _
            refine NoPanic.normal ?_
            go_wp2_with fail
            exact bodyPost_ret (hFin.out _ rfl rfl rfl) rfl hPost.out
           exact AllReadyH.nil
          exact AllReadyH.nil
         exact AllReadyH.nil
        ·have hNx := hG.out.next hE.out hi h4.out h5.out hwt.out hn.out (by rw [hWT.out]; exact hD) hk4
         rw [hWT.out] at hNx
         have hPu := Lib.hid (putL_any (X + 1) d p w5 (by have := kX5.lt; omega) hV5.out (fun b hb => hfp.out b hb) (by have := hG.out.1; have := hE.out.len; omega) WT nm n v hvI hvk hW0.out (line_len hD) (by have := dims_len hD; have := hE.out.len; omega) hst.out)
         rw [hWT2.out, hNM2.out] at hPu
         rw [hk4] at x0
         replace hk4 := Lib.hid hk4
         have hsz5 := detC_size d p
         go_wp2_with (first | (refine wpList_load_row rfl 34 (.tmp 8) rfl X (by simp [Act.eval]) 34 (detC d p) (0, 0) _ kX5 Tryz.underlying34 rfl (by rw [hsz5]; kernel_rfl) ?_) | fail)
         refine hPu.out.mono ?_
         rintro e w6 ⟨p', rfl, hV6, hfp6, hb6⟩
         have kX6 := kX5.below hb6 (by omega)
         have h1c := detC_one hV6
         have hs6 := detC_size (putD d WT nm n) p'
         have hB7 : Hid (Below X W4 (w6.setRow X (detC (putD d WT nm n) p'))) := Lib.hid (below_row (hB5.out.trans (hb6.mono (by omega))) (Nat.le_refl X) _)
         have hA7 : Hid (At (w6.setRow X (detC (putD d WT nm n) p')) X 34 (detC (putD d WT nm n) p')) := Lib.hid kX6.rowAt
         have hV7 : Hid (RdV (w6.setRow X (detC (putD d WT nm n) p')) (putD d WT nm n) p') := Lib.hid (hV6.keep fun b hb => setRow_other w6 X b _ (by have := hfp6 b hb; omega))
         have hf7 : Hid (∀ b, some b ∈ p'.fp → X < b) := Lib.hid fun b hb => by have := hfp6 b hb; omega
         have hG7 : Hid (RefG ts k' (putD d WT nm n) true rr) := Lib.hid (by rw [← hrr0.out]; exact hNx.1)
         have hik : i < k' := hNx.2
         clear hPu hV6 hfp6 hb6 hb5 hV5 kX5 hvk hvI hNx hk4 hD
         go_upto_region 26 with (first | (refine wpList_store_row rfl 34 (.tmp 8) (.tmp 143) rfl X (detC (putD d WT nm n) p') (by simp [Act.eval, Act.put]) (by simp [Act.eval, Act.put]) 34 _ kX6 (by rw [hs6]; kernel_rfl) (by rw [hs6, detC_size]) h1c ?_; generalize hW7 : World.setRow _ _ _ = W7 at *) | fail)
         clear hW7 kX6 x0 x1 x2 x3 hs6 hsz5 h1c
         cases r with
         | true =>
          go_wp2_with fail
          (try clear hkw hkw2)
          (try clear hjw hjw2)
          go_roundg (ts.length - k')
          case measure => have := hgm.out; omega
          case rel => exact ⟨k', putD d WT nm n, p', true, true, rfl, rfl, by go_num, Lib.hid rfl, hk', by have := hrr.out; rw [Bool.true_or] at this; rw [← this] at hG7; exact hG7, hA7, hV7, hf7, hB7⟩
         | false =>
          go_wp2_with fail
          (try clear hkw hkw2)
          (try clear hjw hjw2)
          go_roundg (ts.length - k')
          case measure => have := hgm.out; omega
          case rel => exact ⟨k', putD d WT nm n, p', true, bR, rfl, rfl, by go_num, Lib.hid rfl, hk', by have := hrr.out; rw [Bool.false_or] at this; rw [← this] at hG7; exact hG7, hA7, hV7, hf7, hB7⟩
end Go.Proofs.YtccakklnbhcbdaaGreatDoor
