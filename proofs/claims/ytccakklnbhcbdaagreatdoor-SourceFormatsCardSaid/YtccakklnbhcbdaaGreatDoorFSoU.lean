import Derived.Test.YtccakklnbhcbdaaGreatDoorFSoT
set_option linter.unusedVariables false
namespace Go.Proofs.YtccakklnbhcbdaaGreatDoor
open Go.ChangeShapes Go.WideShapes Go.ChangeAt Go.RowKit
theorem barT_lt {ts : List Tk} (hE : Ends ts) {i : Nat} (hi : i < ts.length) {x : List UInt8 × List Int} {j : Nat} (h : barT ts i = .ok (x, j)) : j < ts.length := by
 unfold barT at h
 split at h
 ·cases h
 ·rename_i h1
  have a := (name_lt hE hi h1).2
  split at h
  ·cases h
  ·rename_i h2
   have b := nums_lt hE _ _ a h2
   split at h
   ·cases h
   ·rename_i h3
    injection h with h
    injection h with _ h
    subst h
    exact dims_lt hE _ _ b h3
set_option maxRecDepth 100000 in
set_option maxHeartbeats 1000000 in
theorem other_bar (w : World) (R : Nat) (ts : List Tk) (s : Rd) (p : PV) (h : RdW w R ts s p) (hi : s.i < ts.length) (hE : Ends ts) (he : EnvR R w) (hm : manyD s.d ≤ 1000000) (hk : (tk ts s.i).kind = 1) (hx : (tk ts s.i).text = wBar) :
  Calls Tryz.prog 96 #[.pointer (some ⟨R, 0, none⟩)] w (OthE ts R w (bodyT ts wBar s)) := by
 obtain ⟨Rx, hRx⟩ : ∃ r, bodyT ts wBar s = r := ⟨_, rfl⟩
 rw [hRx]
 replace hRx := Lib.hid hRx
 obtain ⟨Res, hRes⟩ : ∃ r, barT ts (s.i + 1) = r := ⟨_, rfl⟩
 have hj : s.i + 1 < ts.length := hE.more s.i hi (by rw [hk]; decide)
 have HN := nextH (R := R) (t := 139) s.i hi
 obtain ⟨XS, hX, eT⟩ := tkV_mk (tk ts s.i)
 rw [eT, hk] at HN
 rw [hx, show wBar = [98, 97, 114] from rfl] at hX
 subst hX
 generalize (tk ts s.i).line = L at HN
 generalize (tk ts s.i).col = C at HN
 clear eT hk hx
 obtain ⟨g0, g1, g2, g3, g4, g8, g9, g10, g11, g21, gz⟩ := rdC_get s p
 obtain ⟨dao, dcap, hvd, -⟩ := h.vals.dems.view encD_len
 obtain ⟨nd, hnd⟩ : ∃ nd, nd = (s.d.dems.zip p.ds).length := ⟨_, rfl⟩
 rw [← hnd] at hvd
 replace hnd := Lib.hid hnd
 go_enter Tryz.func96, Tryz.ntmps96
 go_wp2_with fail
 refine (HN.out w _ h.tok).mono ?_
 rintro e w1 ⟨rfl, HB⟩
 have h1 := h.bel HB
 have x11 : w1.cell? ⟨R, 11, none⟩ = some (.slice dao nd dcap) := by rw [h1.tok.own.c, g11, hvd]
 have x1 : w1.cell? ⟨R, 1, none⟩ = some (.int .i64 (s.i : Int)) := by rw [h1.tok.own.c, g1]
 have x21 : w1.cell? ⟨R, 21, none⟩ = some (.bool s.ruled) := by rw [h1.tok.own.c, g21]
 have fr : w1.frozen? ⟨R, 1, none⟩ = false := h1.tok.own.f 1
 have hR1 : R < w1.heap.size := h1.tok.own.lt
 have hR2 : R ≠ w1.heap.size := by omega
 have hR3 : w1.heap.size ≠ R := by omega
 have hw : IntKind.i64.wrap ((s.i : Int) + 1) = ((s.i + 1 : Nat) : Int) := wrap_in (by have := hE.len; omega)
 go_upto_region 9 with fail
 have hA := h1.tok.step (Below.refl _ _) (s.i + 1) (v := (s.i : Int) + 1) (by omega) (below_al (Below.refl _ _) (.cells #[.int .i64 1, .string ⟨#[98, 97, 114]⟩, .int .i64 L, .int .i64 C] 107))
 have h2 := h1.adv hA
 have he2 := ((he.bel HB).adv hA)
 have hb2 := Lib.hid ((HB.mono (Nat.le_of_lt h.tok.own.lt)).trans (hA.belowR (Nat.le_of_lt hR1)))
 generalize hWW : World.alloc _ _ = WW at *
 have q60 : True := trivial
 clear h1 hA HB HN x11 x1 x21 fr hR1 hR2 hR3 hWW he
 replace he2 := Lib.hid he2
 have hm2 : manyD ({ s with i := s.i + 1 } : Rd).d ≤ 1000000 := hm
 have HBr := Lib.hid (bar_any WW R ts { s with i := s.i + 1 } p h2 hj hE he2.out hm2)
 rw [show barT ts ({ s with i := s.i + 1 } : Rd).i = Res from hRes] at HBr
 replace hRes := Lib.hid hRes
 clear hm hm2
 go_wp2_with fail
 refine HBr.out.mono ?_
 intro e w5 hq
 cases Res with
 | error j =>
  have hX : Hid (Rx = .error j) := Lib.hid (by rw [← hRx.out, body_bar, hRes.out])
  have hbe := hb2.out.trans hq.2
  obtain ⟨he, -⟩ := hq
  subst he
  unfold panE
  go_wp2_with fail
  exact ⟨rfl, by rw [hX.out]; exact OthE.bad rfl hbe⟩
 | ok q =>
  obtain ⟨x, j⟩ := q
  obtain ⟨rfl, ⟨p', h5⟩, hb5⟩ := hq
  have hjl : j < ts.length := barT_lt hE hj hRes.out
  have HEn := Lib.hid (end_rd w5 R ts _ p' h5 hjl hE)
  have hFi : Hid (Rx = endRes { s with i := j, d := { s.d with bars := s.d.bars ++ [x] } } (endT ts j)) := Lib.hid (by rw [← hRx.out, body_bar, hRes.out]; rfl)
  have b7 := hb2.out.trans hb5
  dsimp only at HEn
  generalize endT ts j = Ee at *
  go_wp2_with fail
  refine HEn.out.mono ?_
  intro e w6 hq
  cases Ee with
  | error j2 =>
   have hf := OthE.bad hq.1 (b7.trans hq.2)
   obtain ⟨he, -⟩ := hq
   subst he
   unfold panE
   go_wp2_with fail
   refine ⟨rfl, ?_⟩
   rw [hFi.out]
   exact hf
  | ok j2 =>
   have hf : OthE ts R w (endRes _ (.ok j2)) e w6 := OthE.fin hq b7
   obtain ⟨rfl, -⟩ := hq
   go_wp2_with fail
   go_end0
   rw [hFi.out]
   exact hf
set_option maxRecDepth 100000 in
set_option maxHeartbeats 1000000 in
theorem other_kind (w : World) (R : Nat) (ts : List Tk) (s : Rd) (p : PV) (h : RdW w R ts s p) (hi : s.i < ts.length) (hE : Ends ts) (hk : (tk ts s.i).kind ≠ 1) :
  Calls Tryz.prog 96 #[.pointer (some ⟨R, 0, none⟩)] w (OthE ts R w (.error s.i)) := by
 have hj : True := trivial
 have HN := nextH (R := R) (t := 139) s.i hi
 have HF : Hid (∀ w cs, TokR w R 139 cs ts s.i → Calls Tryz.prog 92 #[.pointer (some ⟨R, 0, none⟩)] w fun e w' => e = panE ts s.i ∧ Below w.heap.size w w') := Lib.hid fun w cs h => fail_any w R _ cs ts s.i h hi
 obtain ⟨XS, hX, eT⟩ := tkV_mk (tk ts s.i)
 rw [eT] at HN
 obtain ⟨K, hK⟩ : ∃ K, (tk ts s.i).kind = K := ⟨_, rfl⟩
 rw [hK] at HN hk
 have hk1 : (K != 1) = true := by simp [hk]
 have hk2 : (K == 1) = false := by simp [hk]
 generalize (tk ts s.i).line = L at HN
 generalize (tk ts s.i).col = C at HN
 clear eT
 obtain ⟨g0, g1, g2, g3, g4, g8, g9, g10, g11, g21, gz⟩ := rdC_get s p
 obtain ⟨dao, dcap, hvd, -⟩ := h.vals.dems.view encD_len
 obtain ⟨nd, hnd⟩ : ∃ nd, nd = (s.d.dems.zip p.ds).length := ⟨_, rfl⟩
 rw [← hnd] at hvd
 have hnz : nd = s.d.dems.length := by rw [hnd, List.length_zip, h.vals.ns]; simp
 replace hnd := Lib.hid hnd
 clear hK
 clear hnz
 go_enter Tryz.func96, Tryz.ntmps96
 go_wp2_with fail
 refine (HN.out w _ h.tok).mono ?_
 rintro e w1 ⟨rfl, HB⟩
 have h1 := h.bel HB
 have x11 : w1.cell? ⟨R, 11, none⟩ = some (.slice dao nd dcap) := by rw [h1.tok.own.c, g11, hvd]
 have x1 : w1.cell? ⟨R, 1, none⟩ = some (.int .i64 (s.i : Int)) := by rw [h1.tok.own.c, g1]
 have x21 : w1.cell? ⟨R, 21, none⟩ = some (.bool s.ruled) := by rw [h1.tok.own.c, g21]
 have fr : w1.frozen? ⟨R, 1, none⟩ = false := h1.tok.own.f 1
 have hR1 : R < w1.heap.size := h1.tok.own.lt
 have hR2 : R ≠ w1.heap.size := by omega
 have hR3 : w1.heap.size ≠ R := by omega
 go_wp2_with fail
 refine (HF.out _ _ (h1.tok.bel (below_al (Below.refl _ _) _))).mono ?_
 rintro e w2 ⟨he, hb2⟩
 have hbe : Below R w w2 := (below_then HB (below_then (below_al (Below.refl _ _) _) hb2)).mono (Nat.le_of_lt h.tok.own.lt)
 subst he
 unfold panE
 go_wp2_with fail
 exact ⟨rfl, OthE.bad rfl hbe⟩
set_option maxRecDepth 100000 in
set_option maxHeartbeats 1000000 in
theorem other_ruled (w : World) (R : Nat) (ts : List Tk) (s : Rd) (p : PV) (h : RdW w R ts s p) (hi : s.i < ts.length) (hE : Ends ts) (hk : (tk ts s.i).kind = 1) (hx : (tk ts s.i).text = wRule) (hru : s.ruled = true) :
  Calls Tryz.prog 96 #[.pointer (some ⟨R, 0, none⟩)] w (OthE ts R w (.error s.i)) := by
 have hj : True := trivial
 have HN := nextH (R := R) (t := 139) s.i hi
 have HF : Hid (∀ w cs, TokR w R 139 cs ts s.i → Calls Tryz.prog 92 #[.pointer (some ⟨R, 0, none⟩)] w fun e w' => e = panE ts s.i ∧ Below w.heap.size w w') := Lib.hid fun w cs h => fail_any w R _ cs ts s.i h hi
 obtain ⟨XS, hX, eT⟩ := tkV_mk (tk ts s.i)
 rw [eT] at HN
 rw [hk] at HN
 rw [hx, show wRule = [114, 117, 108, 101] from rfl] at hX
 subst hX
 generalize (tk ts s.i).line = L at HN
 generalize (tk ts s.i).col = C at HN
 clear eT
 obtain ⟨g0, g1, g2, g3, g4, g8, g9, g10, g11, g21, gz⟩ := rdC_get s p
 obtain ⟨dao, dcap, hvd, -⟩ := h.vals.dems.view encD_len
 obtain ⟨nd, hnd⟩ : ∃ nd, nd = (s.d.dems.zip p.ds).length := ⟨_, rfl⟩
 rw [← hnd] at hvd
 have hnz : nd = s.d.dems.length := by rw [hnd, List.length_zip, h.vals.ns]; simp
 replace hnd := Lib.hid hnd
 clear hnz
 go_enter Tryz.func96, Tryz.ntmps96
 go_wp2_with fail
 refine (HN.out w _ h.tok).mono ?_
 rintro e w1 ⟨rfl, HB⟩
 have h1 := h.bel HB
 have x11 : w1.cell? ⟨R, 11, none⟩ = some (.slice dao nd dcap) := by rw [h1.tok.own.c, g11, hvd]
 have x1 : w1.cell? ⟨R, 1, none⟩ = some (.int .i64 (s.i : Int)) := by rw [h1.tok.own.c, g1]
 have x21 : w1.cell? ⟨R, 21, none⟩ = some (.bool true) := by rw [h1.tok.own.c, g21, hru]
 have fr : w1.frozen? ⟨R, 1, none⟩ = false := h1.tok.own.f 1
 have hR1 : R < w1.heap.size := h1.tok.own.lt
 have hR2 : R ≠ w1.heap.size := by omega
 have hR3 : w1.heap.size ≠ R := by omega
 go_wp2_with fail
 refine (HF.out _ _ (h1.tok.bel (below_al (Below.refl _ _) _))).mono ?_
 rintro e w2 ⟨he, hb2⟩
 have hbe : Below R w w2 := (below_then HB (below_then (below_al (Below.refl _ _) _) hb2)).mono (Nat.le_of_lt h.tok.own.lt)
 subst he
 unfold panE
 go_wp2_with fail
 exact ⟨rfl, OthE.bad rfl hbe⟩
set_option maxRecDepth 100000 in
set_option maxHeartbeats 1000000 in
theorem other_stepless (w : World) (R : Nat) (ts : List Tk) (s : Rd) (p : PV) (h : RdW w R ts s p) (hi : s.i < ts.length) (hE : Ends ts) (hk : (tk ts s.i).kind = 1) (hx : (tk ts s.i).text = wStep) (hde : s.d.dems = []) :
  Calls Tryz.prog 96 #[.pointer (some ⟨R, 0, none⟩)] w (OthE ts R w (.error s.i)) := by
 have hj : True := trivial
 have HN := nextH (R := R) (t := 139) s.i hi
 have HF : Hid (∀ w cs, TokR w R 139 cs ts s.i → Calls Tryz.prog 92 #[.pointer (some ⟨R, 0, none⟩)] w fun e w' => e = panE ts s.i ∧ Below w.heap.size w w') := Lib.hid fun w cs h => fail_any w R _ cs ts s.i h hi
 obtain ⟨XS, hX, eT⟩ := tkV_mk (tk ts s.i)
 rw [eT] at HN
 rw [hk] at HN
 rw [hx, show wStep = [115, 116, 101, 112] from rfl] at hX
 subst hX
 generalize (tk ts s.i).line = L at HN
 generalize (tk ts s.i).col = C at HN
 clear eT
 obtain ⟨g0, g1, g2, g3, g4, g8, g9, g10, g11, g21, gz⟩ := rdC_get s p
 obtain ⟨dao, dcap, hvd, -⟩ := h.vals.dems.view encD_len
 obtain ⟨nd, hnd⟩ : ∃ nd, nd = (s.d.dems.zip p.ds).length := ⟨_, rfl⟩
 rw [← hnd] at hvd
 have hnz : nd = s.d.dems.length := by rw [hnd, List.length_zip, h.vals.ns]; simp
 replace hnd := Lib.hid hnd
 obtain rfl : nd = 0 := by rw [hnz, hde]; rfl
 clear hde
 clear hnz
 go_enter Tryz.func96, Tryz.ntmps96
 go_wp2_with fail
 refine (HN.out w _ h.tok).mono ?_
 rintro e w1 ⟨rfl, HB⟩
 have h1 := h.bel HB
 have x11 : w1.cell? ⟨R, 11, none⟩ = some (.slice dao 0 dcap) := by rw [h1.tok.own.c, g11, hvd]
 have x1 : w1.cell? ⟨R, 1, none⟩ = some (.int .i64 (s.i : Int)) := by rw [h1.tok.own.c, g1]
 have x21 : w1.cell? ⟨R, 21, none⟩ = some (.bool s.ruled) := by rw [h1.tok.own.c, g21]
 have fr : w1.frozen? ⟨R, 1, none⟩ = false := h1.tok.own.f 1
 have hR1 : R < w1.heap.size := h1.tok.own.lt
 have hR2 : R ≠ w1.heap.size := by omega
 have hR3 : w1.heap.size ≠ R := by omega
 go_wp2_with fail
 refine (HF.out _ _ (h1.tok.bel (below_al (Below.refl _ _) _))).mono ?_
 rintro e w2 ⟨he, hb2⟩
 have hbe : Below R w w2 := (below_then HB (below_then (below_al (Below.refl _ _) _) hb2)).mono (Nat.le_of_lt h.tok.own.lt)
 subst he
 unfold panE
 go_wp2_with fail
 exact ⟨rfl, OthE.bad rfl hbe⟩
set_option maxRecDepth 100000 in
set_option maxHeartbeats 1000000 in
theorem other_none (w : World) (R : Nat) (ts : List Tk) (s : Rd) (p : PV) (h : RdW w R ts s p) (hi : s.i < ts.length) (hE : Ends ts) (hk : (tk ts s.i).kind = 1) (nbox : (tk ts s.i).text ≠ wBox) (nhole : (tk ts s.i).text ≠ wHole) (nrule : (tk ts s.i).text ≠ wRule) (nbar : (tk ts s.i).text ≠ wBar) (nrun : (tk ts s.i).text ≠ wRun) (nlap : (tk ts s.i).text ≠ wLap) (ndemand : (tk ts s.i).text ≠ wDemand) (nstep : (tk ts s.i).text ≠ wStep) :
  Calls Tryz.prog 96 #[.pointer (some ⟨R, 0, none⟩)] w (OthE ts R w (.error s.i)) := by
 have hj : True := trivial
 have HN := nextH (R := R) (t := 139) s.i hi
 have HF : Hid (∀ w cs, TokR w R 139 cs ts s.i → Calls Tryz.prog 92 #[.pointer (some ⟨R, 0, none⟩)] w fun e w' => e = panE ts s.i ∧ Below w.heap.size w w') := Lib.hid fun w cs h => fail_any w R _ cs ts s.i h hi
 obtain ⟨XS, hX, eT⟩ := tkV_mk (tk ts s.i)
 rw [eT] at HN
 rw [hk] at HN
 have ebox : (XS.toList == [98, 111, 120]) = false := by
  have := str_ne (a := XS) (b := ⟨#[98, 111, 120]⟩) (fun e => nbox (by rw [hX] at e; injection e with e; have := congrArg Array.toList e; show (tk ts s.i).text = [98, 111, 120]; simpa using this))
  rwa [show (⟨#[98, 111, 120]⟩ : ByteArray).toList = [98, 111, 120] from by simp] at this
 have ehole : (XS.toList == [104, 111, 108, 101]) = false := by
  have := str_ne (a := XS) (b := ⟨#[104, 111, 108, 101]⟩) (fun e => nhole (by rw [hX] at e; injection e with e; have := congrArg Array.toList e; show (tk ts s.i).text = [104, 111, 108, 101]; simpa using this))
  rwa [show (⟨#[104, 111, 108, 101]⟩ : ByteArray).toList = [104, 111, 108, 101] from by simp] at this
 have erule : (XS.toList == [114, 117, 108, 101]) = false := by
  have := str_ne (a := XS) (b := ⟨#[114, 117, 108, 101]⟩) (fun e => nrule (by rw [hX] at e; injection e with e; have := congrArg Array.toList e; show (tk ts s.i).text = [114, 117, 108, 101]; simpa using this))
  rwa [show (⟨#[114, 117, 108, 101]⟩ : ByteArray).toList = [114, 117, 108, 101] from by simp] at this
 have ebar : (XS.toList == [98, 97, 114]) = false := by
  have := str_ne (a := XS) (b := ⟨#[98, 97, 114]⟩) (fun e => nbar (by rw [hX] at e; injection e with e; have := congrArg Array.toList e; show (tk ts s.i).text = [98, 97, 114]; simpa using this))
  rwa [show (⟨#[98, 97, 114]⟩ : ByteArray).toList = [98, 97, 114] from by simp] at this
 have erun : (XS.toList == [114, 117, 110]) = false := by
  have := str_ne (a := XS) (b := ⟨#[114, 117, 110]⟩) (fun e => nrun (by rw [hX] at e; injection e with e; have := congrArg Array.toList e; show (tk ts s.i).text = [114, 117, 110]; simpa using this))
  rwa [show (⟨#[114, 117, 110]⟩ : ByteArray).toList = [114, 117, 110] from by simp] at this
 have elap : (XS.toList == [108, 97, 112]) = false := by
  have := str_ne (a := XS) (b := ⟨#[108, 97, 112]⟩) (fun e => nlap (by rw [hX] at e; injection e with e; have := congrArg Array.toList e; show (tk ts s.i).text = [108, 97, 112]; simpa using this))
  rwa [show (⟨#[108, 97, 112]⟩ : ByteArray).toList = [108, 97, 112] from by simp] at this
 have edemand : (XS.toList == [100, 101, 109, 97, 110, 100]) = false := by
  have := str_ne (a := XS) (b := ⟨#[100, 101, 109, 97, 110, 100]⟩) (fun e => ndemand (by rw [hX] at e; injection e with e; have := congrArg Array.toList e; show (tk ts s.i).text = [100, 101, 109, 97, 110, 100]; simpa using this))
  rwa [show (⟨#[100, 101, 109, 97, 110, 100]⟩ : ByteArray).toList = [100, 101, 109, 97, 110, 100] from by simp] at this
 have estep : (XS.toList == [115, 116, 101, 112]) = false := by
  have := str_ne (a := XS) (b := ⟨#[115, 116, 101, 112]⟩) (fun e => nstep (by rw [hX] at e; injection e with e; have := congrArg Array.toList e; show (tk ts s.i).text = [115, 116, 101, 112]; simpa using this))
  rwa [show (⟨#[115, 116, 101, 112]⟩ : ByteArray).toList = [115, 116, 101, 112] from by simp] at this
 generalize (tk ts s.i).line = L at HN
 generalize (tk ts s.i).col = C at HN
 clear eT
 obtain ⟨g0, g1, g2, g3, g4, g8, g9, g10, g11, g21, gz⟩ := rdC_get s p
 obtain ⟨dao, dcap, hvd, -⟩ := h.vals.dems.view encD_len
 obtain ⟨nd, hnd⟩ : ∃ nd, nd = (s.d.dems.zip p.ds).length := ⟨_, rfl⟩
 rw [← hnd] at hvd
 have hnz : nd = s.d.dems.length := by rw [hnd, List.length_zip, h.vals.ns]; simp
 replace hnd := Lib.hid hnd
 clear hX nbox nhole nrule nbar nrun nlap ndemand nstep
 clear hnz
 go_enter Tryz.func96, Tryz.ntmps96
 go_wp2_with fail
 refine (HN.out w _ h.tok).mono ?_
 rintro e w1 ⟨rfl, HB⟩
 have h1 := h.bel HB
 have x11 : w1.cell? ⟨R, 11, none⟩ = some (.slice dao nd dcap) := by rw [h1.tok.own.c, g11, hvd]
 have x1 : w1.cell? ⟨R, 1, none⟩ = some (.int .i64 (s.i : Int)) := by rw [h1.tok.own.c, g1]
 have x21 : w1.cell? ⟨R, 21, none⟩ = some (.bool s.ruled) := by rw [h1.tok.own.c, g21]
 have fr : w1.frozen? ⟨R, 1, none⟩ = false := h1.tok.own.f 1
 have hR1 : R < w1.heap.size := h1.tok.own.lt
 have hR2 : R ≠ w1.heap.size := by omega
 have hR3 : w1.heap.size ≠ R := by omega
 have hw : IntKind.i64.wrap ((s.i : Int) + 1) = ((s.i + 1 : Nat) : Int) := wrap_in (by have := hE.len; omega)
 go_upto_region 9 with fail
 have hA := h1.tok.step (Below.refl _ _) (s.i + 1) (v := (s.i : Int) + 1) (by omega) (below_al (Below.refl _ _) (.cells #[.int .i64 1, .string XS, .int .i64 L, .int .i64 C] 107))
 have h2 := h1.adv hA
 have hb2 := Lib.hid ((HB.mono (Nat.le_of_lt h.tok.own.lt)).trans (hA.belowR (Nat.le_of_lt hR1)))
 generalize hWW : World.alloc _ _ = WW at *
 have hw2 : IntKind.i64.wrap (((s.i + 1 : Nat) : Int) - 1) = ((s.i : Nat) : Int) := by
  rw [show (((s.i + 1 : Nat) : Int) - 1) = ((s.i : Nat) : Int) by omega]
  exact wrap_in (by have := hE.len; omega)
 have hw3 : wrap64 ((s.i : Nat) : Int) = ((s.i : Nat) : Int) := by
  have h0 : IntKind.i64.wrap ((s.i : Nat) : Int) = ((s.i : Nat) : Int) := wrap_in (by have := hE.len; omega)
  simpa [IntKind.wrap_i64, wrap64] using h0
 have z1 : WW.cell? ⟨R, 1, none⟩ = some (.int .i64 ((s.i + 1 : Nat) : Int)) := by
  have q := h2.tok.own.c 1
  exact q.trans (by simp [rdC])
 have zf : WW.frozen? ⟨R, 1, none⟩ = false := h2.tok.own.f 1
 have hRl := h2.tok.own.lt
 have hT := Lib.hid (h2.tok.step (Below.refl _ _) s.i (v := (s.i : Int)) rfl (Below.refl _ _))
 clear h1 hA HB HN x11 x1 x21 fr hR1 hR2 hR3 hWW hw
 replace h := Lib.hid h
 replace h2 := Lib.hid h2
 go_wp2_with fail
 refine (HF.out _ _ hT.out.1).mono ?_
 rintro e w2 ⟨he, hb3⟩
 have hbe : Below R w w2 := hb2.out.trans ((hT.out.belowR (Nat.le_of_lt hRl)).trans (hb3.mono (by simp [World.setCell]; exact Nat.le_of_lt hRl)))
 subst he
 unfold panE
 go_wp2_with fail
 exact ⟨rfl, OthE.bad rfl hbe⟩
end Go.Proofs.YtccakklnbhcbdaaGreatDoor
