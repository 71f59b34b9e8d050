import Derived.Test.YtccakklnbhcbdaaGreatDoorFT
set_option linter.unusedVariables false
namespace Go.Proofs.YtccakklnbhcbdaaGreatDoor
open Go.ChangeShapes Go.WideShapes Go.ChangeAt Go.RowKit
def BarE (ts : List Tk) (R : Nat) (w : World) (s : Rd) : Except Nat ((List UInt8 × List Int) × Nat) → Ending → World → Prop
 | .ok (x, j), e, w' => e = .returned (.tuple #[]) ∧ (∃ p', RdW w' R ts { s with i := j, d := { s.d with bars := s.d.bars ++ [x] } } p') ∧ Below R w w'
 | .error j, e, w' => e = panE ts j ∧ Below R w w'
theorem BarE.bad {ts : List Tk} {R : Nat} {w w' : World} {s : Rd} {j : Nat} {e : Ending} (h : e = panE ts j) (hb : Below R w w') : BarE ts R w s (.error j) e w' := ⟨h, hb⟩
theorem RdW.below {B R : Nat} {w w' : World} {ts : List Tk} {s : Rd} {p : PV} (h : RdW w R ts s p) (hb : Below B w w') (hR : R < B) (hp : ∀ b, some b ∈ p.fp → b < B) : RdW w' R ts s p :=
 ⟨h.tok.below hb hR, h.vals.keep fun b hm => hb.block b (hp b hm), h.young⟩
theorem EnvR.below {B R : Nat} {w w' : World} (h : EnvR R w) (hb : Below B w w') (hR : R ≤ B) : EnvR R w' := by
 obtain ⟨w0, h1, h2, h3⟩ := h
 exact ⟨w0, h1, h2.trans (hb.mono (by omega)), h3⟩
structure BarW (w0 w : World) (R : Nat) (ts : List Tk) (s : Rd) (p : PV) (B : Nat) (NM : ByteArray) (a0 a1 a2 : Int) (dv : Value) (l : List Int) (j : Nat) : Prop where
 rd : RdW w R ts { s with i := j } p
 bar : At w B 56 #[.string NM, .int .i64 a0, .int .i64 a1, .int .i64 a2, dv]
 dims : Row w 3 1 encZ dv l
 blk : ∀ b, dv.ownBlock = some b → w0.heap.size ≤ b ∧ b ≠ B
 young : w0.heap.size ≤ B
 old : R < w0.heap.size ∧ ∀ b, some b ∈ p.fp → b < w0.heap.size
 fr : Below R w0 w
 size : w0.heap.size ≤ w.heap.size
 env : EnvR R w
section
variable {w0 w w' w5 : World} {R : Nat} {ts : List Tk} {s : Rd} {p : PV} {B : Nat} {NM : ByteArray} {a0 a1 a2 : Int} {dv : Value} {l : List Int} {j : Nat}
theorem BarW.adv (h : BarW w0 w R ts s p B NM a0 a1 a2 dv l j) {j' : Nat} (k : Adv ts R 139 (rdC { s with i := j } p) w j' w') : BarW w0 w' R ts s p B NM a0 a1 a2 dv l j' := by
 have hold := h.old
 have hy := h.young
 have hne : ∀ b, w0.heap.size ≤ b → b < w.heap.size → w'.heap[b]? = w.heap[b]? := fun b hb hb2 => k.2.block b hb2 fun x hx => by
  simp only [List.mem_singleton] at hx
  subst hx
  dsimp only
  omega
 exact ⟨h.rd.adv k, (hne B hy h.bar.lt).trans h.bar, h.dims.keep fun b e => hne b (h.blk b e).1 (h.dims.lt e), h.blk, hy, hold, h.fr.trans (k.belowR (Nat.le_of_lt h.rd.tok.own.lt)), Nat.le_trans h.size k.2.size, h.env.adv k⟩
theorem BarW.bel (h : BarW w0 w R ts s p B NM a0 a1 a2 dv l j) (hb : Below w.heap.size w w') : BarW w0 w' R ts s p B NM a0 a1 a2 dv l j :=
 ⟨h.rd.bel hb, h.bar.bel hb, h.dims.keep fun b e => hb.block b (h.dims.lt e), h.blk, h.young, h.old, h.fr.trans (hb.mono (Nat.le_of_lt h.rd.tok.own.lt)), Nat.le_trans h.size hb.size, h.env.bel hb⟩
theorem BarW.grow (h : BarW w0 w R ts s p B NM a0 a1 a2 dv l j) (hg : w.grownBy w5 dv.ownBlock) {v' : Value} {x : Int} (ho : Row w5 3 1 encZ v' (l ++ [x])) {m : Nat} (hm : w.heap.size ≤ m) (hl : v'.ownBlock = dv.ownBlock ∨ v'.ownBlock = some m) :
  w5.cell? ⟨B, 4, none⟩ = some dv ∧ w5.frozen? ⟨B, 4, none⟩ = false ∧ BarW w0 (w5.setCell ⟨B, 4, none⟩ v') R ts s p B NM a0 a1 a2 v' (l ++ [x]) j := by
 have hB5 : At w5 B 56 #[.string NM, .int .i64 a0, .int .i64 a1, .int .i64 a2, dv] := (hg.block B h.bar.lt fun e => (h.blk B e.symm).2 rfl).trans h.bar
 have hbl : Below w0.heap.size w (w5.setCell ⟨B, 4, none⟩ v') := by
  refine Below.setCell (p := ⟨B, 4, none⟩) ⟨hg.os, hg.tape, hg.output, hg.size, fun k hk => hg.block k (Nat.lt_of_lt_of_le hk h.size) fun e => ?_⟩ h.young v'
  have := (h.blk k e.symm).1
  omega
 have hnB : ∀ b, v'.ownBlock = some b → w0.heap.size ≤ b ∧ b ≠ B := fun b e => by
  rcases hl with q | q
  ·exact h.blk b (q ▸ e)
  ·rw [q] at e
   injection e with e
   have := h.bar.lt
   have := h.size
   omega
 refine ⟨hB5.c 4, hB5.f 4, ⟨h.rd.below hbl h.old.1 h.old.2, ?_, ho.keep fun b e => Below.heap_setCell w5 ⟨B, 4, none⟩ v' b (hnB b e).2, hnB, h.young, h.old, h.fr.trans (hbl.mono (Nat.le_of_lt h.old.1)), Nat.le_trans h.size hbl.size, h.env.below hbl (Nat.le_of_lt h.old.1)⟩⟩
 have := hB5.put 4 v'
 simpa using this
end
def preL (l : List Int) : Except Nat (List Int × Nat) → Except Nat (List Int × Nat)
 | .error e => .error e
 | .ok (m, j) => .ok (l ++ m, j)
def DimG (ts : List Tk) (D : Except Nat (List Int × Nat)) (l : List Int) (j : Nat) : Prop := ∃ f, ts.length ≤ f + j ∧ preL l (dimsT ts f j) = D
theorem DimG.go {ts : List Tk} {D : Except Nat (List Int × Nat)} {l : List Int} {j j' : Nat} {n : Int} (h : DimG ts D l j) (hj : j < ts.length) (hk : (tk ts j).kind ≠ 4) (hn : numT ts j = .ok (n, j')) : DimG ts D (l ++ [n]) j' := by
 obtain ⟨f, h1, h2⟩ := h
 have hu := num_up hn
 cases f with
 | zero => omega
 | succ f =>
  refine ⟨f, by omega, ?_⟩
  rw [← h2, dimsT, if_neg hk, hn]
  dsimp only
  cases dimsT ts f j' with
  | error e => rfl
  | ok q =>
   obtain ⟨m, i⟩ := q
   simp [preL]
theorem DimG.bad {ts : List Tk} {D : Except Nat (List Int × Nat)} {l : List Int} {j e : Nat} (h : DimG ts D l j) (hj : j < ts.length) (hk : (tk ts j).kind ≠ 4) (hn : numT ts j = .error e) : D = .error e := by
 obtain ⟨f, h1, h2⟩ := h
 cases f with
 | zero => omega
 | succ f => rw [← h2, dimsT, if_neg hk, hn]; rfl
theorem DimG.stop {ts : List Tk} {D : Except Nat (List Int × Nat)} {l : List Int} {j : Nat} (h : DimG ts D l j) (hj : j < ts.length) (hk : (tk ts j).kind = 4) : D = .ok (l, j) := by
 obtain ⟨f, h1, h2⟩ := h
 cases f with
 | zero => omega
 | succ f =>
  rw [← h2, dimsT, if_pos hk]
  simp [preL]
set_option maxRecDepth 100000 in
set_option maxHeartbeats 1000000 in
theorem bar_any (w : World) (R : Nat) (ts : List Tk) (s : Rd) (p : PV) (h : RdW w R ts s p) (hi : s.i < ts.length) (hE : Ends ts) (he : EnvR R w) (hm : manyD s.d ≤ 1000000) :
  Calls Tryz.prog 118 #[.pointer (some ⟨R, 0, none⟩)] w (BarE ts R w s (barT ts s.i)) := by
 obtain ⟨Rx, hRx⟩ : ∃ r, barT ts s.i = r := ⟨_, rfl⟩
 rw [hRx]
 replace hRx := Lib.hid hRx
 obtain ⟨Rn, hRn⟩ : ∃ r, nameT ts s.i = r := ⟨_, rfl⟩
 have HNm := Lib.hid (name_any w R _ _ ts s.i h.tok hi hE)
 rw [hRn] at HNm
 replace hRn := Lib.hid hRn
 have h2 := h
 have hb2 := Lib.hid (Below.refl R w)
 have he2 := Lib.hid he
 have hfp : Hid (∀ b, some b ∈ p.fp → b < w.heap.size) := Lib.hid fun b hb => h.vals.lt hb
 have hRw0 := h.tok.own.lt
 clear he
 go_enter Tryz.func118, Tryz.ntmps118
 go_wp2_with fail
 refine HNm.out.mono ?_
 intro e wn hq
 cases Rn with
 | error j =>
  obtain ⟨he, hW⟩ := hq
  have hbe := hb2.out.trans (hW.belowR (Nat.le_of_lt h2.tok.own.lt))
  have hX : Hid (Rx = .error j) := Lib.hid (by rw [← hRx.out]; unfold barT; rw [hRn.out])
  subst he
  unfold panE
  go_wp2_with fail
  exact ⟨rfl, by rw [hX.out]; exact BarE.bad rfl hbe⟩
 | ok q =>
  obtain ⟨nm, i1⟩ := q
  obtain ⟨NM, hNM⟩ : ∃ NM : ByteArray, NM = ⟨nm.toArray⟩ := ⟨_, rfl⟩
  have hq1 : e = .returned (.string NM) := by rw [hNM]; exact hq.1
  replace hNM := Lib.hid hNM
  have hA0 := hq.2
  clear hq
  subst hq1
  have hi1 := (name_lt hE hi hRn.out).2
  have hbn := Lib.hid (hb2.out.trans (hA0.belowR (Nat.le_of_lt h2.tok.own.lt)))
  have hen := Lib.hid (he2.out.adv hA0)
  have hsz : w.heap.size ≤ wn.heap.size := hA0.2.size
  replace h2 := h2.adv hA0
  clear hA0 HNm
  obtain ⟨Res, hRes⟩ : ∃ r, numsT ts 3 i1 = r := ⟨_, rfl⟩
  have hszn : w.heap.size ≤ wn.heap.size := hsz
  go_wp2_with fail
  generalize hW3 : World.alloc (World.alloc _ _) _ = W3
  have kQ : At W3 wn.heap.size 56 #[.string NM, .int .i64 0, .int .i64 0, .int .i64 0, .slice none 0 0] := by rw [← hW3]; repeat (first | (with_reducible apply At.new'; (focus (simp; done))) | with_reducible apply At.al | with_reducible apply At.drw | with_reducible apply At.dr)
  have kP : At W3 (wn.heap.size + 1) 143 #[.pointer (some ⟨wn.heap.size, 1, none⟩), .pointer (some ⟨wn.heap.size, 2, none⟩), .pointer (some ⟨wn.heap.size, 3, none⟩)] := by rw [← hW3]; repeat (first | (with_reducible apply At.new'; (focus (simp; done))) | with_reducible apply At.al | with_reducible apply At.drw | with_reducible apply At.dr)
  have HB3 : Below wn.heap.size wn W3 := by rw [← hW3]; repeat (first | with_reducible assumption | with_reducible exact Below.refl _ _ | with_reducible refine below_al ?_ _ | with_reducible refine below_drew ?_ | with_reducible refine below_drewN ?_ _ | with_reducible refine below_set ?_ (by dsimp only; omega) _)
  clear hW3
  have hRB : R < wn.heap.size := h2.tok.own.lt
  refine (numbers_any (Q := wn.heap.size) (o := 1) W3 R _ _ ts (i1) (h2.tok.bel HB3) hi1 hE (hen.out.bel HB3) (wn.heap.size + 1) 3 3 _ _ kP (fun c hc => ?_) (by omega) (by omega) _ _ kQ (by simp) (by omega) (fun e => absurd e (by omega)) (Nat.le_refl _) (by omega) p.vt (rdC_get _ _).1).mono ?_
  ·have hcc : c = 0 ∨ c = 1 ∨ c = 2 := by omega
   rcases hcc with rfl | rfl | rfl <;> rfl
  rw [hRes]
  intro e w3 hN
  cases Res with
  | error j =>
   obtain ⟨rfl, hW⟩ := hN.pan HB3 (Nat.le_refl _)
   have hbe := hbn.out.trans (hW.belowR (Nat.le_of_lt hRB))
   have hX : Hid (Rx = .error j) := Lib.hid (by rw [← hRx.out]; unfold barT; rw [hRn.out]; dsimp only; rw [nums_err ts i1 1 3 hRes])
   unfold panE
   clear hN
   go_wp2_with fail
   exact ⟨rfl, by rw [hX.out]; exact BarE.bad rfl hbe⟩
  | ok q =>
   obtain ⟨n, j⟩ := q
   have hjl : j < ts.length := nums_lt hE 3 _ hi1 hRes
   have hA := hN.adv h2.tok HB3 (Nat.le_refl _)
   have h3 := h2.adv hA
   have hb3 := Lib.hid (hbn.out.trans (hA.belowR (Nat.le_of_lt hRB)))
   obtain ⟨rfl, -, hl, hWr⟩ := hN
   have hnl : n.length = 3 := nums_len ts 3 _ hRes
   obtain ⟨a0, a1, a2, rfl⟩ := three hnl
   have hB3 : At w3 wn.heap.size 56 #[.string NM, .int .i64 a0, .int .i64 a1, .int .i64 a2, .slice none 0 0] := by
    obtain ⟨cs', k1, k2, k3⟩ := hWr.at kQ
    have e0 : cs'[0]? = some (.string NM) := k3 0 (nps_no (by omega) (by omega))
    have e1 : cs'[1]? = some (.int .i64 a0) := by rw [← k1.c]; exact hl 0 (by simp)
    have e2 : cs'[2]? = some (.int .i64 a1) := by rw [← k1.c]; exact hl 1 (by simp)
    have e3 : cs'[3]? = some (.int .i64 a2) := by rw [← k1.c]; exact hl 2 (by simp)
    have e4 : cs'[4]? = some (.slice none 0 0) := k3 4 (fun hx => by
     rcases nps_mem hx with e | ⟨c, hc, e⟩
     ·injection e with _ e; omega
     ·injection e with _ e; omega)
    have : cs' = #[.string NM, .int .i64 a0, .int .i64 a1, .int .i64 a2, .slice none 0 0] := by
     apply Array.ext_getElem?
     intro m
     have hmm : m = 0 ∨ m = 1 ∨ m = 2 ∨ m = 3 ∨ m = 4 ∨ 5 ≤ m := by omega
     rcases hmm with rfl | rfl | rfl | rfl | rfl | hmm
     ·rw [e0]; rfl
     ·rw [e1]; rfl
     ·rw [e2]; rfl
     ·rw [e3]; rfl
     ·rw [e4]; rfl
     ·rw [Array.getElem?_eq_none (by rw [k2]; exact hmm), Array.getElem?_eq_none (by exact hmm)]
    rw [← this]
    exact k1
   obtain ⟨Rm, hRm⟩ : ∃ r, numT ts j = r := ⟨_, rfl⟩
   have hsn := nums_snoc ts 3 i1 hRes
   rw [hRm] at hsn
   have hsz3 : w.heap.size ≤ w3.heap.size := Nat.le_trans hszn (Nat.le_of_lt (Nat.lt_of_lt_of_le kQ.lt hWr.size))
   have he3 : EnvR R w3 := (hen.out.bel HB3).wr hWr fun x hx => by rcases nps_mem hx with rfl | ⟨c, _, rfl⟩ <;> (dsimp only; omega)
   have HNu := Lib.hid (number_any w3 R _ _ ts j h3.tok hjl hE he3)
   rw [hRm] at HNu
   generalize hBg : wn.heap.size = B at *
   clear hl hWr hA kQ kP HB3
   replace hRes := Lib.hid hRes
   replace hRm := Lib.hid hRm
   replace hsn := Lib.hid hsn
   go_wp2_with fail
   refine HNu.out.mono ?_
   intro e w4 hq
   cases Rm with
   | error j2 =>
    obtain ⟨he, hW⟩ := hq
    have hbe := hb3.out.trans (hW.belowR (Nat.le_of_lt h3.tok.own.lt))
    have hX : Hid (Rx = .error j2) := Lib.hid (by rw [← hRx.out]; unfold barT; rw [hRn.out]; dsimp only; rw [hsn.out])
    subst he
    unfold panE
    go_wp2_with fail
    exact ⟨rfl, by rw [hX.out]; exact BarE.bad rfl hbe⟩
   | ok q =>
    obtain ⟨n, j2⟩ := q
    obtain ⟨rfl, hA4⟩ := hq
    have hj2 : j2 < ts.length := num_lt hE hjl hRm.out
    have h4 := h3.adv hA4
    have hB4 : At w4 B 56 #[.string NM, .int .i64 a0, .int .i64 a1, .int .i64 a2, .slice none 0 0] := (hA4.2.block B hB3.lt fun x hx => by
     simp only [List.mem_singleton] at hx
     subst hx
     dsimp only
     omega).trans hB3
    have hb4 := hb3.out.trans (hA4.belowR (Nat.le_of_lt h3.tok.own.lt))
    have he4 := he3.adv hA4
    have hsz4 : w.heap.size ≤ w4.heap.size := Nat.le_trans hsz3 hA4.2.size
    have hBw : w.heap.size ≤ B := by omega
    have hBl4 := hB4.lt
    have y4 : w4.cell? ⟨B, 4, none⟩ = some (.slice none 0 0) := hB4.c 4
    have f4 : w4.frozen? ⟨B, 4, none⟩ = false := hB4.f 4
    have hBn4 : B ≠ w4.heap.size := by omega
    have hBn5 : w4.heap.size ≠ B := by omega
    have hW0 : Hid (∀ W, At W B 56 #[.string NM, .int .i64 a0, .int .i64 a1, .int .i64 a2, .slice (some ⟨w4.heap.size, 0, none⟩) 1 1] → At W w4.heap.size 3 #[.int .i64 n] → Below w.heap.size w4 W → BarW w W R ts s p B NM a0 a1 a2 (.slice (some ⟨w4.heap.size, 0, none⟩) 1 1) [n] j2) := Lib.hid fun W k1 k2 k3 => by
     refine ⟨h4.below k3 hRw0 hfp.out, k1, ?_, fun b e => ?_, hBw, ⟨hRw0, hfp.out⟩, hb4.trans (k3.mono (Nat.le_of_lt hRw0)), Nat.le_trans hsz4 k3.size, he4.below k3 (Nat.le_of_lt hRw0)⟩
     ·exact ⟨rfl, .inr ⟨w4.heap.size, 1, #[.int .i64 n], rfl, Nat.zero_le _, k2, Nat.le_refl _, by decide, rfl, rfl⟩⟩
     ·injection e with e
      dsimp only at e
      omega
    go_wp2_with fail
    generalize hW5 : World.alloc _ _ = W5
    have hB0 := hW0.out W5 (by
     rw [← hW5]
     with_reducible apply At.al
     have := hB4.put 4 (.slice (some ⟨w4.heap.size, 0, none⟩) 1 1)
     simpa using this) (by rw [← hW5]; apply At.new'; simp) (by
     rw [← hW5]
     exact (below_sc (Below.refl _ _) hBw 4 _).trans ((below_al (Below.refl _ _) _).mono (by simp [World.setCell]; exact hsz4)))
    obtain ⟨Dd, hDd⟩ : ∃ D, dimsT ts ts.length j2 = D := ⟨_, rfl⟩
    have hD0 : Hid (DimG ts Dd [] j2) := Lib.hid ⟨ts.length, by omega, by
     rw [hDd]
     cases Dd with
     | error e => rfl
     | ok q => rfl⟩
    have hl0 : Hid (([] : List Int).length ≤ j2) := Lib.hid (Nat.zero_le _)
    replace hB0 := Lib.hid hB0
    have hRd : Hid (∀ e, Dd = .error e → Rx = .error e) := Lib.hid fun e q => by
     rw [← hRx.out]
     unfold barT
     rw [hRn.out]
     dsimp only
     rw [hsn.out]
     dsimp only
     rw [hDd, q]
    have hRo : Hid (∀ m j, Dd = .ok (m, j) → Rx = .ok ((nm, [a0, a1, a2] ++ [n] ++ m), j)) := Lib.hid fun m j q => by
     rw [← hRx.out]
     unfold barT
     rw [hRn.out]
     dsimp only
     rw [hsn.out]
     dsimp only
     rw [hDd, q]
    obtain ⟨iz, hiz0, hiz1, hiz2, hiz3⟩ := info_parts infoInt
    obtain ⟨ib, hib0, hib1, hib2, hib3⟩ := info_parts infoBar
    clear hDd hW0 hW5 hB4 h4 hb4 he4 y4 f4 hBn4 hBn5 hA4 HNu hB3 he3 h3 hb3 h2 hbn hen he2 hRx hsn hRes hRm hnl hBl4 hsz4 hBw hsz3 hszn hsz hi1 hRB h hRn hfp hi
    have hm' := Lib.hid hm
    clear hm
    go_loopg [] (ts.length - j2) (fun g wr => ∃ (jj : Nat) (l : List Int) (dv : Value), jj < ts.length ∧ Hid (g = ts.length - jj) ∧ Hid (DimG ts Dd l jj) ∧ Hid (l.length ≤ jj) ∧ Hid (BarW w wr R ts s p B NM a0 a1 a2 dv (n :: l) jj))
    case atStart => exact ⟨j2, [], _, hj2, Lib.hid rfl, hD0, hl0, hB0⟩
    case round =>
     clear hB0 hD0 hl0 hj2
     obtain ⟨jj, l, dv, hj, hg, hD, hll, hA⟩ := hrel
     have HN := nextH (R := R) (t := 139) jj hj
     have hf := field0
     obtain ⟨XS, _, eT⟩ := tkV_mk (tk ts jj)
     rw [eT] at HN
     obtain ⟨K, hK⟩ : ∃ K, (tk ts jj).kind = K := ⟨_, rfl⟩
     rw [hK] at HN
     generalize (tk ts jj).line = L at HN
     generalize (tk ts jj).col = C at HN
     clear eT
     obtain ⟨ao, cap, hdv, hcap, -⟩ := hA.out.dims.view (fun _ => rfl)
     obtain ⟨ln, hln⟩ : ∃ ln, ln = (n :: l).length := ⟨_, rfl⟩
     rw [← hln] at hdv hcap
     subst hdv
     have hln6 : ln ≤ 1000001 := by have := hll.out; have := hE.len; rw [hln, List.length_cons]; omega
     by_cases h4 : K = 4
     ·have hDs := hRo.out _ _ (hD.out.stop hj (hK.trans h4))
      subst h4
      clear hD hK hRd hRo
      go_wp2_with fail
      refine (HN.out wr _ hA.out.rd.tok).mono ?_
      rintro e w1 ⟨rfl, HB⟩
      have hA1 := hA.out.bel HB
      obtain ⟨vo, cp, hvb, hcp, -⟩ := hA1.rd.vals.bars.view encR_len
      obtain ⟨nb, hnb⟩ : ∃ nb, nb = s.d.bars.length := ⟨_, rfl⟩
      have hzl : (s.d.bars.zip p.db).length = nb := by rw [List.length_zip, hA1.rd.vals.nb, hnb]; simp
      have hvb : p.vr = .slice vo nb cp := by rw [← hzl]; exact hvb
      have hA1d := Lib.hid (hA1.bel (below_drew (Below.refl _ _)))
      have y8 : w1.drew.cell? ⟨R, 8, none⟩ = some (.slice vo nb cp) := by
       have q := hA1.rd.tok.own.c 8
       rw [← hvb]
       exact q.trans (by simp [rdC, encK, List.range, List.range.loop])
      have y8w : w1.cell? ⟨R, 8, none⟩ = some (.slice vo nb cp) := y8
      have q0 : w1.drew.cell? ⟨B, 0, none⟩ = some (.string NM) := hA1.bar.c 0
      have q0w : w1.cell? ⟨B, 0, none⟩ = some (.string NM) := q0
      have q1 : w1.drew.cell? ⟨B, 1, none⟩ = some (.int .i64 a0) := hA1.bar.c 1
      have q1w : w1.cell? ⟨B, 1, none⟩ = some (.int .i64 a0) := q1
      have q2 : w1.drew.cell? ⟨B, 2, none⟩ = some (.int .i64 a1) := hA1.bar.c 2
      have q2w : w1.cell? ⟨B, 2, none⟩ = some (.int .i64 a1) := q2
      have q3 : w1.drew.cell? ⟨B, 3, none⟩ = some (.int .i64 a2) := hA1.bar.c 3
      have q3w : w1.cell? ⟨B, 3, none⟩ = some (.int .i64 a2) := q3
      have q4 : w1.drew.cell? ⟨B, 4, none⟩ = some (.slice ao ln cap) := hA1.bar.c 4
      have q4w : w1.cell? ⟨B, 4, none⟩ = some (.slice ao ln cap) := q4
      have ho3 : Hid (w1.drew.ownsRow 0 56 5 (.slice vo nb cp) nb ((s.d.bars.zip p.db).flatMap encR)) := Lib.hid (by
       have q := hA1d.out.rd.vals.bars
       unfold Row at q
       rw [← hvb, ← hzl]
       exact q)
      have hnb6 : nb ≤ 1000000 := by have := hm'.out; rw [hnb]; unfold manyD at this; omega
      have hRw3 : R < w1.heap.size := hA1.rd.tok.own.lt
      have hRw4 : R ≠ w1.heap.size := by omega
      have hBw3 : B < w1.heap.size := hA1.bar.lt
      have hBw4 : B ≠ w1.heap.size := by omega
      have hPu : Hid (∀ w5 g5 c5, w5.ownsRow 0 56 5 (.slice g5 (nb + 1) c5) (nb + 1) ((s.d.bars.zip p.db).flatMap encR ++ [.string NM, .int .i64 a0, .int .i64 a1, .int .i64 a2, .slice ao ln cap]) → (w1.drew.alloc (.cells #[.string NM, .int .i64 a0, .int .i64 a1, .int .i64 a2, .slice ao ln cap] 56)).grownBy w5 (Value.slice vo nb cp).ownBlock → ((Value.slice g5 (nb + 1) c5).ownBlock = (Value.slice vo nb cp).ownBlock ∨ (Value.slice g5 (nb + 1) c5).ownBlock = some (w1.drew.alloc (.cells #[.string NM, .int .i64 a0, .int .i64 a1, .int .i64 a2, .slice ao ln cap] 56)).heap.size) →
        w5.cell? ⟨R, 8, none⟩ = some (.slice vo nb cp) ∧ w5.frozen? ⟨R, 8, none⟩ = false ∧ Hid (BarE ts R w s Rx (.returned (.tuple #[])) (w5.setCell ⟨R, 8, none⟩ (.slice g5 (nb + 1) c5)))) := Lib.hid fun w5 g5 c5 ho5 hg5 hloc => by
       have hgg := grown_after (w := w1.drew) (below_al (Below.refl _ _) _) hg5
       have hrow : ∀ b, (Value.slice vo nb cp).ownBlock = some b → b < w.heap.size := fun b e => hA1.old.2 b (by rw [← e, ← hvb]; simp [PV.fp])
       obtain ⟨hat5, hS5, hb5⟩ := hA1d.out.rd.pushR (v' := .slice g5 (nb + 1) c5) (dv := .slice ao ln cap) (n := (nm, [a0, a1, a2] ++ [n] ++ l)) (by rw [hvb]; exact hgg) (by
        have hne : encR ((nm, [a0, a1, a2] ++ [n] ++ l), .slice ao ln cap) = [.string NM, .int .i64 a0, .int .i64 a1, .int .i64 a2, .slice ao ln cap] := by unfold encR; dsimp only; rw [← hNM.out]; rfl
        rw [hne, ← hnb]
        exact ho5) (m := (w1.drew.alloc (.cells #[.string NM, .int .i64 a0, .int .i64 a1, .int .i64 a2, .slice ao ln cap] 56)).heap.size) (by simp) (by rw [hvb]; exact hloc)
        (hA1d.out.dims.keep fun b e => hgg.block b (hA1d.out.dims.lt e) fun e2 => by have := hrow b e2.symm; have := (hA1d.out.blk b e).1; omega)
        (fun b e => ⟨fun q => by have := hA1d.out.old.2 b q; have := (hA1d.out.blk b e).1; omega, by have := hA1d.out.dims.lt e; simp; have h8 : w1.drew.heap.size = w1.heap.size := rfl; omega, by have := (hA1d.out.blk b e).1; have := hA1d.out.old.1; omega⟩)
       refine ⟨?_, hat5.f 8, Lib.hid ?_⟩
       ·rw [hat5.c 8, ← hvb]
        simp [rdC, encK, List.range, List.range.loop]
       ·rw [hDs]
        exact ⟨rfl, ⟨_, hS5⟩, hA1d.out.fr.trans hb5⟩
      replace hA1 := Lib.hid hA1
      replace hnb := Lib.hid hnb
      replace hzl := Lib.hid hzl
      replace hvb := Lib.hid hvb
      replace hln := Lib.hid hln
      replace hDs := Lib.hid hDs
      clear hcp hcap hA HB HN
      go_wp2_with fail
      go_region_law (refine step_append_at _ rfl (.tmp 42) (.tmp 44) 27 rfl 0 56 ib _ 5 64 (by kernel_rfl) hib0 hib1 hib2 hib3 rfl (by decide) (.slice vo nb cp) nb ((s.d.bars.zip p.db).flatMap encR) (by simp [Act.eval]) (World.ownsRow.alloc ho3.out _) ⟨w1.drew.heap.size, 0, none⟩ 1 1 [.string NM, .int .i64 a0, .int .i64 a1, .int .i64 a2, .slice ao ln cap] (by simp [Act.eval]) rfl (new_at (At.new _ _ _)) (by intro u hu; simp at hu; rcases hu with rfl | rfl | rfl | rfl | rfl <;> rfl) (by unfold maxLen; omega) (by omega) (by simp) ?_; intro g5 c5 w5 ho5 hg5 hloc; obtain ⟨y4, f4, hS5⟩ := hPu.out w5 g5 c5 ho5 hg5 hloc; clear ho5 hg5 hloc)
      all_goals
       go_wp2_with fail
       go_end0
       exact hS5.out
     ·have h4' : (tk ts jj).kind ≠ 4 := by rw [hK]; exact h4
      obtain ⟨Rm, hRm⟩ : ∃ r, numT ts jj = r := ⟨_, rfl⟩
      have hb1 : ∀ W, BarW w W R ts s p B NM a0 a1 a2 (.slice ao ln cap) (n :: l) jj → Calls Tryz.prog 116 #[.pointer (some ⟨R, 0, none⟩)] W (TwoE ts R 139 (rdC { s with i := jj } p) W (fun n => .int .i64 n) Rm) := fun W hW => by
       have := number_any W R _ _ ts jj hW.rd.tok hj hE hW.env
       rw [hRm] at this
       exact this
      replace hb1 := Lib.hid hb1
      have hEl := hE.len
      clear hK
      go_wp2_with fail
      refine (HN.out wr _ hA.out.rd.tok).mono ?_
      rintro e w1 ⟨rfl, HB⟩
      have hA1 := hA.out.bel HB
      have hA1d := Lib.hid (hA1.bel (below_drew (Below.refl _ _)))
      have y4 : w1.drew.cell? ⟨B, 4, none⟩ = some (.slice ao ln cap) := hA1.bar.c 4
      have y4w : w1.cell? ⟨B, 4, none⟩ = some (.slice ao ln cap) := y4
      clear hA HB HN
      cases Rm with
      | error j3 =>
       have hX := Lib.hid (hRd.out _ (hD.out.bad hj h4' hRm))
       have hfr := Lib.hid (hA1d.out.fr)
       have hRl := Lib.hid (hA1d.out.rd.tok.own.lt)
       replace hA1 := Lib.hid hA1
       replace hln := Lib.hid hln
       clear hcap hD
       go_wp2_with fail
       go_region_law (first | (go_simp; go_at_call 116; refine (hb1.out _ hA1d.out).mono ?_; rintro e w2 ⟨he, hW⟩; have hbe := hfr.out.trans (hW.belowR (Nat.le_of_lt hRl.out)); subst he; refine idle (P := Tryz.prog) (a := { tmps := #[], defers := [] }) (w := w2) ?_ ?_; focus (unfold panE; go_wp2_with fail; exact ⟨rfl, by rw [hX.out]; exact BarE.bad rfl hbe⟩)))
       all_goals trivial
      | ok q =>
       obtain ⟨x, j3⟩ := q
       have hj3 : j3 < ts.length := num_lt hE hj hRm
       have hD3 := Lib.hid (hD.out.go hj h4' hRm)
       have hup := num_up hRm
       have hl3 : Hid ((l ++ [x]).length ≤ j3) := Lib.hid (by have := hll.out; simp; omega)
       have hb2 : Hid (∀ W, BarW w W R ts s p B NM a0 a1 a2 (.slice ao ln cap) (n :: l) jj → Calls Tryz.prog 116 #[.pointer (some ⟨R, 0, none⟩)] W fun e w2 => e = .returned (.int .i64 x) ∧ BarW w w2 R ts s p B NM a0 a1 a2 (.slice ao ln cap) (n :: l) j3) := Lib.hid fun W hW => (hb1.out W hW).mono fun e w2 hq => ⟨hq.1, hW.adv hq.2⟩
       have hAft : Hid (∀ w2, BarW w w2 R ts s p B NM a0 a1 a2 (.slice ao ln cap) (n :: l) j3 → Hid (BarW w w2 R ts s p B NM a0 a1 a2 (.slice ao ln cap) (n :: l) j3) ∧ B < w2.heap.size ∧ B ≠ w2.heap.size ∧ w2.cell? ⟨B, 4, none⟩ = some (.slice ao ln cap) ∧ w2.ownsRow 0 3 1 (.slice ao ln cap) ln ((n :: l).flatMap encZ)) := Lib.hid fun w2 hA2 => by
        have hBl := hA2.bar.lt
        refine ⟨Lib.hid hA2, hBl, by omega, hA2.bar.c 4, ?_⟩
        have q := hA2.dims
        unfold Row at q
        rw [hln]
        exact hln ▸ q
       have hPu : Hid (∀ w2 w5 g5 c5, BarW w w2 R ts s p B NM a0 a1 a2 (.slice ao ln cap) (n :: l) j3 → w5.ownsRow 0 3 1 (.slice g5 (ln + 1) c5) (ln + 1) ((n :: l).flatMap encZ ++ [.int .i64 x]) → (w2.alloc (.cells #[.int .i64 x] 3)).grownBy w5 (Value.slice ao ln cap).ownBlock → ((Value.slice g5 (ln + 1) c5).ownBlock = (Value.slice ao ln cap).ownBlock ∨ (Value.slice g5 (ln + 1) c5).ownBlock = some (w2.alloc (.cells #[.int .i64 x] 3)).heap.size) →
         w5.cell? ⟨B, 4, none⟩ = some (.slice ao ln cap) ∧ w5.frozen? ⟨B, 4, none⟩ = false ∧ Hid (BarW w (w5.setCell ⟨B, 4, none⟩ (.slice g5 (ln + 1) c5)) R ts s p B NM a0 a1 a2 (.slice g5 (ln + 1) c5) (n :: (l ++ [x])) j3)) := Lib.hid fun w2 w5 g5 c5 hA2 ho5 hg5 hloc => by
        have hro : Row w5 3 1 encZ (.slice g5 (ln + 1) c5) ((n :: l) ++ [x]) := by
         unfold Row
         rw [List.flatMap_append, List.length_append, ← hln]
         exact ho5
        obtain ⟨k1, k2, k3⟩ := hA2.grow (grown_after (w := w2) (below_al (Below.refl _ _) _) hg5) hro (m := (w2.alloc (.cells #[.int .i64 x] 3)).heap.size) (by simp) hloc
        exact ⟨k1, k2, Lib.hid k3⟩
       replace hA1 := Lib.hid hA1
       replace hln := Lib.hid hln
       clear hcap hD hb1 hRm h4'
       go_wp2_with fail
       go_region_law (first | (go_simp; go_at_call 116; refine (hb2.out _ hA1d.out).mono ?_; rintro e w2 ⟨rfl, hA2⟩; obtain ⟨h3, hRl2, hRn3, y3w, ho3⟩ := hAft.out w2 hA2; clear hA2) | (refine step_append_at _ rfl (.tmp 29) (.tmp 34) 54 rfl 0 3 iz _ 1 8 (by kernel_rfl) hiz0 hiz1 hiz2 hiz3 rfl (by decide) (.slice ao ln cap) ln ((n :: l).flatMap encZ) (by simp [Act.eval]) (World.ownsRow.alloc ho3 _) ⟨w2.heap.size, 0, none⟩ 1 1 [.int .i64 x] (by simp [Act.eval]) rfl (new_at (At.new _ _ _)) (by intro u hu; simp at hu; subst hu; rfl) (by unfold maxLen; omega) (by omega) (by simp) ?_; intro g5 c5 w5 ho5 hg5 hloc; obtain ⟨z4, f4, hS5⟩ := hPu.out w2 w5 g5 c5 h3.out ho5 hg5 hloc; clear ho5 hg5 hloc))
       all_goals
        go_wp2_with fail
        go_roundg (ts.length - j3)
        case measure => have := hg.out; omega
        case rel => exact ⟨j3, l ++ [x], _, hj3, Lib.hid rfl, hD3, hl3, hS5⟩
end Go.Proofs.YtccakklnbhcbdaaGreatDoor
