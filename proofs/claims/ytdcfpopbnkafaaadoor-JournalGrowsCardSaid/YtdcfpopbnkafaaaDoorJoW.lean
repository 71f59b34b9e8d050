/- journal: the walk of JournalGrows. -/
import Derived.Test.YtdcfpopbnkafaaaDoorJoU
set_option linter.unusedVariables false
namespace Go.Proofs.YtdcfpopbnkafaaaDoor
open Go.ChangeShapes Go.WideShapes Go.ChangeAt Go.RowKit

theorem take_app {l : List Ent} {k : Nat} (hk : k < l.length) : l.take (k + 1) = l.take k ++ [l[k]] := List.take_succ_eq_append_getElem hk
set_option maxRecDepth 100000 in
set_option maxHeartbeats 4000000 in
theorem journalGrows_walk (l : List Ent) (ao : Option Addr) (cap : Nat) (hl : l.length ≤ cap) (hc : cap ≤ 9223372036854775807) (xd xk : Int) (xn : ByteArray) (hd : (Lit.int .i64 xd).wf = true) (hk : (Lit.int .i64 xk).wf = true) (w : World) (hfr : RowAt encE 3 w.heap.size w ao l) (hfm : (ao = none ∧ l.length = 0 ∧ cap = 0) ∨ ∃ b off, ao = some ⟨b, off, none⟩) (he : Env w) :
    Calls Tryd.prog 7 #[.slice ao l.length cap, .agg #[.int .i64 xd, .int .i64 xk, .string xn]] w fun e w' => e = .returned (.bool true) ∧ Below w.heap.size w w' := by
  obtain ⟨i0, hi, hz0, hz1, hz2⟩ := info_parts infoEnt
  have he0 := Lib.hid he
  have hl0 : Hid (IsE l (.slice ao l.length cap) w) := Lib.hid ⟨ao, cap, rfl, hl, hc, hfr⟩
  have hfr0 := Lib.hid hfr
  have hfm0 : Hid ((ao = none ∧ l.length = 0) ∨ ∃ b off, ao = some ⟨b, off, none⟩) := Lib.hid (hfm.imp (fun h => ⟨h.1, h.2.1⟩) id)
  have hd0 := Lib.hid (lim64 hd)
  have hk0 := Lib.hid (lim64 hk)
  obtain ⟨L, hL⟩ : ∃ L, l.length = L := ⟨_, rfl⟩
  rw [hL] at hl0 hl ⊢
  have hLn := Lib.hid hL
  clear he hl hd hk hfr hfm hL
  obtain ⟨p, hp⟩ : ∃ p, decide ((20 : Int) < (L : Int)) = p := ⟨_, rfl⟩
  obtain ⟨q, hq⟩ : ∃ q, decide ((60 : Int) < (xn.size : Int)) = q := ⟨_, rfl⟩
  go_enter Tryd.func7, Tryd.ntmps7
  go_wp2_with fail
  generalize hWW : World.alloc _ _ = W1
  have kx : At W1 w.heap.size 24 #[.int .i64 xd, .int .i64 xk, .string xn] := by rw [← hWW]; exact At.new' rfl
  have HB : Below w.heap.size w W1 := by rw [← hWW]; exact below_al (Below.refl _ _) _
  clear hWW
  refine (awake_v W1 (he0.out.bel HB)).mono ?_
  rintro e w1 ⟨rfl, hb1⟩
  replace kx := At.bel kx hb1
  replace HB := below_then HB hb1
  clear hb1
  obtain ⟨lb, hlb⟩ : ∃ lb, longE l = lb := ⟨_, rfl⟩
  have HL := Lib.hid (longE_v l _ w1 (hl0.out.up HB))
  rw [hlb] at HL
  go_wp2_with fail
  refine HL.out.mono ?_
  rintro e w2 ⟨rfl, hb2⟩
  replace kx := At.bel kx hb2
  replace HB := below_then HB hb2
  clear HL hb2
  obtain ⟨x0, x1, x2⟩ := kx.three
  rcases lb with _ | _
  rotate_left
  · clear hlb
    go_wp2_with fail
    go_ret
    exact ⟨rfl, HB⟩
  have hsh := Lib.hid (longE_no hlb)
  clear hlb
  rcases p with _ | _
  rotate_left
  · go_wp2_with fail
    go_ret
    exact ⟨rfl, HB⟩
  rcases q with _ | _
  rotate_left
  · go_wp2_with fail
    go_ret
    exact ⟨rfl, HB⟩
  have hL20 : L ≤ 20 := by have := of_decide_eq_false hp; omega
  have hll : Hid (L ≤ 2000) := Lib.hid (by omega)
  have hxn : Hid (xn.size ≤ 10000) := Lib.hid (by have := of_decide_eq_false hq; omega)
  have hs : Hid (∀ x ∈ l, x.name.size ≤ 10000) := Lib.hid fun x hx => by have := hsh.out.2 x hx; omega
  obtain ⟨vl, hvl⟩ : ∃ vl, logV l = vl := ⟨_, rfl⟩
  have HV := Lib.hid (valid_v l _ w2 hs.out (hl0.out.up HB))
  rw [hvl] at HV
  replace hvl := Lib.hid hvl
  go_wp2_with fail
  refine HV.out.mono ?_
  rintro e w3 ⟨rfl, hb3⟩
  replace kx := At.bel kx hb3
  replace HB := below_then HB hb3
  clear HV hb3 x0 x1 x2
  rcases vl with _ | _
  · go_wp2_with fail
    go_ret
    exact ⟨rfl, HB⟩
  have hgood : Hid (∀ x ∈ l, entOk x = true) := Lib.hid (fun x hx => logV_ent hvl.out hx)
  go_upto_region 6 with fail
  generalize hWW : World.alloc _ _ = W2
  have hbW : Below w3.heap.size w3 W2 := by rw [← hWW]; exact below_al (Below.refl _ _) _
  have hB0 : Hid (IsB [] (.slice (some ⟨w3.heap.size, 0, none⟩) 0 0) W2) := Lib.hid ⟨_, _, rfl, Nat.le_refl _, by omega, RowAt.nil _ _, .inr ⟨_, _, rfl⟩⟩
  replace kx := At.bel kx hbW
  replace HB := below_then HB hbW
  have HBH := Lib.hid HB
  clear hWW hbW HB
  go_wp2_with fail
  go_loopg [40, 5] L (fun g i v wr => ∃ (k : Nat) (v0 : Value), v0 = v ∧ k ≤ L ∧ i = .int .i64 (k : Int) ∧ Hid (g = L - k) ∧ Below W2.heap.size W2 wr ∧ Hid (IsB (encJ (l.take k)) v wr))
  case atStart => exact ⟨0, _, rfl, Nat.zero_le _, rfl, Lib.hid rfl, Below.refl _ _, hB0⟩
  case round =>
    clear hB0
    obtain ⟨k, v, rfl, hk, rfl, hr, HB, hv⟩ := hrel
    by_cases hlt : k < L
    · have hkl : Hid (k < l.length) := Lib.hid (by rw [hLn.out]; exact hlt)
      have hrow : Hid (IsE l (.slice ao L cap) wr) := Lib.hid (hl0.out.up (below_then HBH.out HB))
      obtain ⟨b, off, rfl, e0, e1, e2, hb⟩ := (show RowAt encE 3 w.heap.size wr ao l from hfr0.out.bel (Nat.le_refl _) (below_then HBH.out HB)).ent k hkl.out
      have hx2 := Lib.hid (hgood.out _ (List.getElem_mem hkl.out))
      have hvk : Hid (logV (l.take k ++ [l[k]'hkl.out]) = true) := Lib.hid (by rw [← take_app hkl.out]; exact logV_take hvl.out _)
      have hap := Lib.hid ((app_enc (logV_take hvl.out k) (l[k]'hkl.out)).2 hvk.out)
      have hvk1 : Hid (logV (l.take (k + 1)) = true) := Lib.hid (logV_take hvl.out _)
      have hpre : Hid ((encJ (l.take k)).isPrefixOf (encJ (l.take (k + 1))) = true) := Lib.hid (by rw [List.isPrefixOf_iff_prefix, encJ_take hkl.out]; exact List.prefix_append _ _)
      have hlen : Hid ((encJ (l.take k)).length ≤ 70000) := Lib.hid (dec_enc (logV_take hvl.out k)).2.2
      rw [← take_app hkl.out] at hap
      obtain ⟨x, hx⟩ : ∃ x, l[k]'hkl.out = x := ⟨_, rfl⟩
      rw [hx] at e0 e1 e2 hx2 hap
      clear hx hb hvk
      obtain ⟨yd, yk, yn⟩ := x
      dsimp only at e0 e1 e2
      have hbd : Hid ((-9223372036854775808 ≤ yd ∧ yd ≤ 9223372036854775807) ∧ (-9223372036854775808 ≤ yk ∧ yk ≤ 9223372036854775807)) := Lib.hid (by
        have h := hx2.out
        unfold entOk at h
        simp only [Bool.and_eq_true, decide_eq_true_eq] at h
        omega)
      have hyn : Hid (yn.size ≤ 20) := Lib.hid (rec_len (p := []) hx2.out).2
      obtain ⟨k1, hk1⟩ : ∃ k1, k + 1 = k1 := ⟨_, rfl⟩
      have hw1 : IntKind.i64.wrap ((k : Int) + 1) = (k1 : Int) := by rw [IntWalk.i64_in _ (by omega)]; omega
      have hk1L : k1 ≤ L := by omega
      rw [hk1] at hap hpre hvk1
      replace hk1 := Lib.hid hk1
      go_upto_region 9 with fail
      generalize hWW : World.alloc _ _ = W4
      have ky : At W4 wr.heap.size 24 #[.int .i64 yd, .int .i64 yk, .string yn] := by rw [← hWW]; exact At.new' rfl
      have hbW : Below wr.heap.size wr W4 := by rw [← hWW]; exact below_al (Below.refl _ _) _
      clear hWW e0 e1 e2
      replace HB := below_then HB hbW
      replace hv := Lib.hid (hv.out.up hbW)
      replace hrow := Lib.hid (hrow.out.up hbW)
      obtain ⟨y0, y1, y2⟩ := ky.three
      have HA := Lib.hid (append_v (encJ (l.take k)) _ (.inl (by have := hlen.out; omega)) yd yk yn hbd.out.1 hbd.out.2 (by have := hyn.out; omega) W4 ((he0.out.bel HBH.out).bel HB) hv.out)
      clear hbW ky
      go_wp2_with fail
      refine HA.out.mono ?_
      rintro e w5 ⟨⟨cv, er, rfl, her, hcv⟩, hb5⟩
      have her2 : er = 0 := her.out.trans hap.out.1
      subst her2
      rw [hap.out.2] at hcv
      replace HB := below_then HB hb5
      replace hv := Lib.hid (hv.out.up hb5)
      replace hrow := Lib.hid (hrow.out.up hb5)
      obtain ⟨ca, cn, cc, rfl, -, -⟩ := hcv.out.shape
      obtain ⟨hs1, hrow1⟩ := hrow.out.hi k1 hk1L
      have HE := Lib.hid (enc_v (l.take k1) _ w5 (fun x hx => hs.out x (List.mem_of_mem_take hx)) ((he0.out.bel HBH.out).bel HB) hrow1)
      rw [hvk1.out] at HE
      clear HA hb5 her hrow1 y0 y1 y2
      go_wp2_with fail
      refine HE.out.mono ?_
      rintro e w6 ⟨⟨-, hE2⟩, hb6⟩
      obtain ⟨dv, rfl, hdv⟩ := hE2 rfl
      replace HB := below_then HB hb6
      replace hv := Lib.hid (hv.out.up hb6)
      replace hcv := Lib.hid (hcv.out.up hb6)
      obtain ⟨da, dn, dc, rfl, -, -⟩ := hdv.out.shape
      have HQ := Lib.hid (beq_v _ _ _ _ w6 hcv.out hdv.out)
      rw [decide_eq_true (rfl : encJ (l.take k1) = encJ (l.take k1))] at HQ
      have HP := Lib.hid (pre_v _ _ _ _ w6 hcv.out hv.out)
      rw [hpre.out] at HP
      clear hE2 hb6 HE hdv hs1 hrow
      go_wp2_with fail
      refine HQ.out.mono ?_
      rintro e wn ⟨rfl, rfl⟩
      clear HQ
      go_wp2_with fail
      refine HP.out.mono ?_
      rintro e wn ⟨rfl, rfl⟩
      clear HP
      go_wp2_with fail
      go_roundg (L - k1)
      case measure => have := hr.out; have := hk1.out; omega
      case rel => exact ⟨k1, _, rfl, hk1L, by go_num, Lib.hid rfl, HB, hcv⟩
    · have hE : Hid (l.take k = l) := Lib.hid (List.take_of_length_le (by have := hLn.out; omega))
      rw [hE.out] at hv
      have hJl : Hid ((encJ l).length ≤ 70000) := Lib.hid (dec_enc hvl.out).2.2
      have happ := Lib.hid (app_enc hvl.out (⟨xd, xk, xn⟩ : Ent))
      replace kx := At.bel kx HB
      replace HB := below_then HBH.out HB
      have hcl : Hid (ClonesE l (.slice ao L cap) L wr) := Lib.hid (ClonesE.of_row (hfr0.out.bel (Nat.le_refl _) HB |>.mono HB.size) hfm0.out (by have := hll.out; have := hLn.out; omega) hLn.out)
      obtain ⟨va, vn, vc, rfl, -, -⟩ := hv.out.shape
      have hnml : Hid (∀ x ∈ l ++ [(⟨xd, xk, xn⟩ : Ent)], x.name.size ≤ 10000) := Lib.hid (by
        intro y hy
        rcases List.mem_append.1 hy with q | q
        · exact names_le hvl.out y q
        · rw [List.mem_singleton] at q; rw [q]; exact hxn.out)
      clear hE hr
      have HCL := hcl
      clear hcl
      obtain ⟨x0, x1, x2⟩ := kx.three
      obtain ⟨vb, hvb⟩ : ∃ vb, logV (l ++ [(⟨xd, xk, xn⟩ : Ent)]) = vb := ⟨_, rfl⟩
      replace hvb := Lib.hid hvb
      go_upto_region 15 with fail
      go_cut [12] (fun u wc => ∃ a5 c5, u = .slice a5 (L + 1) c5 ∧ Hid (wc.ownsRow wr.heap.size 24 3 (.slice a5 (L + 1) c5) (l ++ [(⟨xd, xk, xn⟩ : Ent)]).length ((l ++ [(⟨xd, xk, xn⟩ : Ent)]).flatMap encE)) ∧ Below wr.heap.size wr wc)
      case first =>
        refine wp_region_noPanic ?_
        refine wp_region_held_drew (S := (fun W => Below wr.heap.size wr W ∧ At W w.heap.size 24 #[.int .i64 xd, .int .i64 xk, .string xn] ∧ W.cell? ⟨w.heap.size, 0, none⟩ = some (.int .i64 xd) ∧ W.cell? ⟨w.heap.size, 1, none⟩ = some (.int .i64 xk) ∧ W.cell? ⟨w.heap.size, 2, none⟩ = some (.string xn))) (by kernel_rfl) ?_ (fun hHeld => ?_)
        · (try dsimp only); (first | ((try go_split_ands); refine ⟨?_, ?_, ?_, ?_, ?_⟩; (focus ((repeat (first | with_reducible assumption | with_reducible exact Below.refl _ _ | with_reducible refine below_al ?_ _ | with_reducible refine below_drew ?_ | with_reducible refine below_drewN ?_ _ | with_reducible refine below_then ?_ hb6)); done)); (focus ((repeat (first | with_reducible assumption | with_reducible apply At.drw | with_reducible refine At.al ?_ _ | with_reducible refine At.bel ?_ hb6)); done)); (focus (first | (with_reducible refine At.c0' (t := 24) (x := .int .i64 xd) (y := .int .i64 xk) (z := .string xn) ?_; (repeat (first | with_reducible assumption | with_reducible apply At.drw | with_reducible refine At.al ?_ _ | with_reducible refine At.bel ?_ hb6)); done) | (with_reducible refine At.c1' (t := 24) (x := .int .i64 xd) (y := .int .i64 xk) (z := .string xn) ?_; (repeat (first | with_reducible assumption | with_reducible apply At.drw | with_reducible refine At.al ?_ _ | with_reducible refine At.bel ?_ hb6)); done) | (with_reducible refine At.c2' (t := 24) (x := .int .i64 xd) (y := .int .i64 xk) (z := .string xn) ?_; (repeat (first | with_reducible assumption | with_reducible apply At.drw | with_reducible refine At.al ?_ _ | with_reducible refine At.bel ?_ hb6)); done) )); (focus (first | (with_reducible refine At.c0' (t := 24) (x := .int .i64 xd) (y := .int .i64 xk) (z := .string xn) ?_; (repeat (first | with_reducible assumption | with_reducible apply At.drw | with_reducible refine At.al ?_ _ | with_reducible refine At.bel ?_ hb6)); done) | (with_reducible refine At.c1' (t := 24) (x := .int .i64 xd) (y := .int .i64 xk) (z := .string xn) ?_; (repeat (first | with_reducible assumption | with_reducible apply At.drw | with_reducible refine At.al ?_ _ | with_reducible refine At.bel ?_ hb6)); done) | (with_reducible refine At.c2' (t := 24) (x := .int .i64 xd) (y := .int .i64 xk) (z := .string xn) ?_; (repeat (first | with_reducible assumption | with_reducible apply At.drw | with_reducible refine At.al ?_ _ | with_reducible refine At.bel ?_ hb6)); done) )); (focus (first | (with_reducible refine At.c0' (t := 24) (x := .int .i64 xd) (y := .int .i64 xk) (z := .string xn) ?_; (repeat (first | with_reducible assumption | with_reducible apply At.drw | with_reducible refine At.al ?_ _ | with_reducible refine At.bel ?_ hb6)); done) | (with_reducible refine At.c1' (t := 24) (x := .int .i64 xd) (y := .int .i64 xk) (z := .string xn) ?_; (repeat (first | with_reducible assumption | with_reducible apply At.drw | with_reducible refine At.al ?_ _ | with_reducible refine At.bel ?_ hb6)); done) | (with_reducible refine At.c2' (t := 24) (x := .int .i64 xd) (y := .int .i64 xk) (z := .string xn) ?_; (repeat (first | with_reducible assumption | with_reducible apply At.drw | with_reducible refine At.al ?_ _ | with_reducible refine At.bel ?_ hb6)); done) ))) | go_keep)
        refine wpAnyH_take (i := 0) (v := ?_) (by simp only [List.getElem?_toArray, List.getElem?_cons_zero]; rfl) (by kernel_rfl) (by kernel_rfl) (by kernel_rfl) (fun _ _ _ h => h) (Or.inl ⟨by rfl, ?_⟩) (by assumption) ?_
        rotate_left
        focus (intro w hSw; (try dsimp only at hSw); go_simp; first | done | with_reducible rfl)
        (try simp only [Act.put, List.setIfInBounds_toArray, List.set_cons_zero, List.set_cons_succ])
        refine wpAnyH_take (i := 2) (v := ?_) (by simp only [List.getElem?_toArray, List.getElem?_cons_succ, List.getElem?_cons_zero]; rfl) (by kernel_rfl) (by kernel_rfl) (by kernel_rfl) (fun _ _ _ h => h) (Or.inl ⟨by rfl, ?_⟩) (by assumption) ?_
        rotate_left
        focus (intro w hSw; (try dsimp only at hSw); go_simp; first | done | with_reducible rfl)
        (try simp only [Act.put, List.setIfInBounds_toArray, List.set_cons_zero, List.set_cons_succ])
        refine wpAnyH_ready (rs := [1, 3]) (by kernel_rfl) (by simp) ?_
        refine AllReadyH.cons (i := 1) (by simp only [List.getElem?_toArray, List.getElem?_cons_succ, List.getElem?_cons_zero]; rfl) (fun K hK => ?_) ?_
        · go_simp
          (go_at_call 29; refine (HCL.out _ (by go_split_ands; repeat (first | with_reducible assumption | with_reducible exact Below.refl _ _ | with_reducible refine below_al ?_ _ | with_reducible refine below_drew ?_ | with_reducible refine below_drewN ?_ _ | with_reducible refine below_then ?_ hb6))).mono ?_; rintro e w8 ⟨⟨cy, cc, rfl, hcl0⟩, hb6⟩; have hcl := own_weak (base' := wr.heap.size) hcl0.out (Below.size (B := wr.heap.size) (w := wr) (by go_split_ands; repeat (first | with_reducible assumption | with_reducible exact Below.refl _ _ | with_reducible refine below_al ?_ _ | with_reducible refine below_drew ?_ | with_reducible refine below_drewN ?_ _ | with_reducible refine below_then ?_ hb6))))
          (try go_wp2_with fail)
          refine hK.out _ _ ?_ (fun hHeld => ?_)
          · (try dsimp only); (first | ((try go_split_ands); refine ⟨?_, ?_, ?_, ?_, ?_⟩; (focus ((repeat (first | with_reducible assumption | with_reducible exact Below.refl _ _ | with_reducible refine below_al ?_ _ | with_reducible refine below_drew ?_ | with_reducible refine below_drewN ?_ _ | with_reducible refine below_then ?_ hb6)); done)); (focus ((repeat (first | with_reducible assumption | with_reducible apply At.drw | with_reducible refine At.al ?_ _ | with_reducible refine At.bel ?_ hb6)); done)); (focus (first | (with_reducible refine At.c0' (t := 24) (x := .int .i64 xd) (y := .int .i64 xk) (z := .string xn) ?_; (repeat (first | with_reducible assumption | with_reducible apply At.drw | with_reducible refine At.al ?_ _ | with_reducible refine At.bel ?_ hb6)); done) | (with_reducible refine At.c1' (t := 24) (x := .int .i64 xd) (y := .int .i64 xk) (z := .string xn) ?_; (repeat (first | with_reducible assumption | with_reducible apply At.drw | with_reducible refine At.al ?_ _ | with_reducible refine At.bel ?_ hb6)); done) | (with_reducible refine At.c2' (t := 24) (x := .int .i64 xd) (y := .int .i64 xk) (z := .string xn) ?_; (repeat (first | with_reducible assumption | with_reducible apply At.drw | with_reducible refine At.al ?_ _ | with_reducible refine At.bel ?_ hb6)); done) )); (focus (first | (with_reducible refine At.c0' (t := 24) (x := .int .i64 xd) (y := .int .i64 xk) (z := .string xn) ?_; (repeat (first | with_reducible assumption | with_reducible apply At.drw | with_reducible refine At.al ?_ _ | with_reducible refine At.bel ?_ hb6)); done) | (with_reducible refine At.c1' (t := 24) (x := .int .i64 xd) (y := .int .i64 xk) (z := .string xn) ?_; (repeat (first | with_reducible assumption | with_reducible apply At.drw | with_reducible refine At.al ?_ _ | with_reducible refine At.bel ?_ hb6)); done) | (with_reducible refine At.c2' (t := 24) (x := .int .i64 xd) (y := .int .i64 xk) (z := .string xn) ?_; (repeat (first | with_reducible assumption | with_reducible apply At.drw | with_reducible refine At.al ?_ _ | with_reducible refine At.bel ?_ hb6)); done) )); (focus (first | (with_reducible refine At.c0' (t := 24) (x := .int .i64 xd) (y := .int .i64 xk) (z := .string xn) ?_; (repeat (first | with_reducible assumption | with_reducible apply At.drw | with_reducible refine At.al ?_ _ | with_reducible refine At.bel ?_ hb6)); done) | (with_reducible refine At.c1' (t := 24) (x := .int .i64 xd) (y := .int .i64 xk) (z := .string xn) ?_; (repeat (first | with_reducible assumption | with_reducible apply At.drw | with_reducible refine At.al ?_ _ | with_reducible refine At.bel ?_ hb6)); done) | (with_reducible refine At.c2' (t := 24) (x := .int .i64 xd) (y := .int .i64 xk) (z := .string xn) ?_; (repeat (first | with_reducible assumption | with_reducible apply At.drw | with_reducible refine At.al ?_ _ | with_reducible refine At.bel ?_ hb6)); done) ))) | go_keep)
          clear hK K
          (try simp only [Act.put, List.setIfInBounds_toArray, List.set_cons_zero, List.set_cons_succ])
          refine wpAnyH_ready (rs := [3]) (by kernel_rfl) (by simp) ?_
          refine AllReadyH.cons (i := 3) (by simp only [List.getElem?_toArray, List.getElem?_cons_succ, List.getElem?_cons_zero]; rfl) (fun K hK => ?_) ?_
          · go_simp
            refine hK.out _ _ ?_ (fun hHeld => ?_)
            · (try dsimp only); (first | ((try go_split_ands); refine ⟨?_, ?_, ?_, ?_, ?_⟩; (focus ((repeat (first | with_reducible assumption | with_reducible exact Below.refl _ _ | with_reducible refine below_al ?_ _ | with_reducible refine below_drew ?_ | with_reducible refine below_drewN ?_ _ | with_reducible refine below_then ?_ hb6)); done)); (focus ((repeat (first | with_reducible assumption | with_reducible apply At.drw | with_reducible refine At.al ?_ _ | with_reducible refine At.bel ?_ hb6)); done)); (focus (first | (with_reducible refine At.c0' (t := 24) (x := .int .i64 xd) (y := .int .i64 xk) (z := .string xn) ?_; (repeat (first | with_reducible assumption | with_reducible apply At.drw | with_reducible refine At.al ?_ _ | with_reducible refine At.bel ?_ hb6)); done) | (with_reducible refine At.c1' (t := 24) (x := .int .i64 xd) (y := .int .i64 xk) (z := .string xn) ?_; (repeat (first | with_reducible assumption | with_reducible apply At.drw | with_reducible refine At.al ?_ _ | with_reducible refine At.bel ?_ hb6)); done) | (with_reducible refine At.c2' (t := 24) (x := .int .i64 xd) (y := .int .i64 xk) (z := .string xn) ?_; (repeat (first | with_reducible assumption | with_reducible apply At.drw | with_reducible refine At.al ?_ _ | with_reducible refine At.bel ?_ hb6)); done) )); (focus (first | (with_reducible refine At.c0' (t := 24) (x := .int .i64 xd) (y := .int .i64 xk) (z := .string xn) ?_; (repeat (first | with_reducible assumption | with_reducible apply At.drw | with_reducible refine At.al ?_ _ | with_reducible refine At.bel ?_ hb6)); done) | (with_reducible refine At.c1' (t := 24) (x := .int .i64 xd) (y := .int .i64 xk) (z := .string xn) ?_; (repeat (first | with_reducible assumption | with_reducible apply At.drw | with_reducible refine At.al ?_ _ | with_reducible refine At.bel ?_ hb6)); done) | (with_reducible refine At.c2' (t := 24) (x := .int .i64 xd) (y := .int .i64 xk) (z := .string xn) ?_; (repeat (first | with_reducible assumption | with_reducible apply At.drw | with_reducible refine At.al ?_ _ | with_reducible refine At.bel ?_ hb6)); done) )); (focus (first | (with_reducible refine At.c0' (t := 24) (x := .int .i64 xd) (y := .int .i64 xk) (z := .string xn) ?_; (repeat (first | with_reducible assumption | with_reducible apply At.drw | with_reducible refine At.al ?_ _ | with_reducible refine At.bel ?_ hb6)); done) | (with_reducible refine At.c1' (t := 24) (x := .int .i64 xd) (y := .int .i64 xk) (z := .string xn) ?_; (repeat (first | with_reducible assumption | with_reducible apply At.drw | with_reducible refine At.al ?_ _ | with_reducible refine At.bel ?_ hb6)); done) | (with_reducible refine At.c2' (t := 24) (x := .int .i64 xd) (y := .int .i64 xk) (z := .string xn) ?_; (repeat (first | with_reducible assumption | with_reducible apply At.drw | with_reducible refine At.al ?_ _ | with_reducible refine At.bel ?_ hb6)); done) ))) | go_keep)
            clear hK K
            (try simp only [Act.put, List.setIfInBounds_toArray, List.set_cons_zero, List.set_cons_succ])
            refine wpAnyH_ready (rs := [4]) (by kernel_rfl) (by simp) ?_
            refine AllReadyH.cons (i := 4) (by simp only [List.getElem?_toArray, List.getElem?_cons_succ, List.getElem?_cons_zero]; rfl) (fun K hK => ?_) ?_
            · (refine step_append_w _ rfl (.tmp 80) (.tmp 82) 34 rfl wr.heap.size 24 i0 (.agg #[.int .i64 0, .int .i64 0, .string ⟨#[]⟩]) 3 32 Tryd.underlying34 hi hz0 hz1 hz2 rfl (by decide) (.slice cy L cc) L (l.flatMap encE) (by first | rfl | (simp [Act.eval]; done)) (hcl.alloc _) ⟨w8.heap.size, 0, none⟩ 1 1 [.int .i64 xd, .int .i64 xk, .string xn] (by first | rfl | (simp [Act.eval]; done)) rfl (three_new (At.new _ _ _)) (by intro u hu; simp at hu; rcases hu with rfl | rfl | rfl <;> rfl) (by have := hll.out; unfold maxLen; omega) (by have := hll.out; omega) (Below.size (B := wr.heap.size) (w := wr) (by go_split_ands; repeat (first | with_reducible assumption | with_reducible exact Below.refl _ _ | with_reducible refine below_al ?_ _ | with_reducible refine below_drew ?_ | with_reducible refine below_drewN ?_ _ | with_reducible refine below_then ?_ hb6))) ?_; intro a5 c5 w9 ho9 hg9 hloc9; have hB9 : Below wr.heap.size wr w9 := below_grown (by go_split_ands; repeat (first | with_reducible assumption | with_reducible exact Below.refl _ _ | with_reducible refine below_al ?_ _ | with_reducible refine below_drew ?_ | with_reducible refine below_drewN ?_ _ | with_reducible refine below_then ?_ hb6)) hg9 (fun j hj => (own_lt hcl hj).2); have kx9 : At w9 w.heap.size 24 #[.int .i64 xd, .int .i64 xk, .string xn] := At.bel kx hB9; replace ho9 := Lib.hid (row_pushL hLn.out ho9); clear hg9 hloc9)
              refine hK.out _ _ ?_ (fun hHeld => ?_)
              · (try dsimp only); (first | ((try go_split_ands); refine ⟨?_, ?_, ?_, ?_, ?_⟩; (focus ((repeat (first | with_reducible assumption | with_reducible exact Below.refl _ _ | with_reducible refine below_al ?_ _ | with_reducible refine below_drew ?_ | with_reducible refine below_drewN ?_ _ | with_reducible refine below_then ?_ hb6)); done)); (focus ((repeat (first | with_reducible assumption | with_reducible apply At.drw | with_reducible refine At.al ?_ _ | with_reducible refine At.bel ?_ hb6)); done)); (focus (first | (with_reducible refine At.c0' (t := 24) (x := .int .i64 xd) (y := .int .i64 xk) (z := .string xn) ?_; (repeat (first | with_reducible assumption | with_reducible apply At.drw | with_reducible refine At.al ?_ _ | with_reducible refine At.bel ?_ hb6)); done) | (with_reducible refine At.c1' (t := 24) (x := .int .i64 xd) (y := .int .i64 xk) (z := .string xn) ?_; (repeat (first | with_reducible assumption | with_reducible apply At.drw | with_reducible refine At.al ?_ _ | with_reducible refine At.bel ?_ hb6)); done) | (with_reducible refine At.c2' (t := 24) (x := .int .i64 xd) (y := .int .i64 xk) (z := .string xn) ?_; (repeat (first | with_reducible assumption | with_reducible apply At.drw | with_reducible refine At.al ?_ _ | with_reducible refine At.bel ?_ hb6)); done) )); (focus (first | (with_reducible refine At.c0' (t := 24) (x := .int .i64 xd) (y := .int .i64 xk) (z := .string xn) ?_; (repeat (first | with_reducible assumption | with_reducible apply At.drw | with_reducible refine At.al ?_ _ | with_reducible refine At.bel ?_ hb6)); done) | (with_reducible refine At.c1' (t := 24) (x := .int .i64 xd) (y := .int .i64 xk) (z := .string xn) ?_; (repeat (first | with_reducible assumption | with_reducible apply At.drw | with_reducible refine At.al ?_ _ | with_reducible refine At.bel ?_ hb6)); done) | (with_reducible refine At.c2' (t := 24) (x := .int .i64 xd) (y := .int .i64 xk) (z := .string xn) ?_; (repeat (first | with_reducible assumption | with_reducible apply At.drw | with_reducible refine At.al ?_ _ | with_reducible refine At.bel ?_ hb6)); done) )); (focus (first | (with_reducible refine At.c0' (t := 24) (x := .int .i64 xd) (y := .int .i64 xk) (z := .string xn) ?_; (repeat (first | with_reducible assumption | with_reducible apply At.drw | with_reducible refine At.al ?_ _ | with_reducible refine At.bel ?_ hb6)); done) | (with_reducible refine At.c1' (t := 24) (x := .int .i64 xd) (y := .int .i64 xk) (z := .string xn) ?_; (repeat (first | with_reducible assumption | with_reducible apply At.drw | with_reducible refine At.al ?_ _ | with_reducible refine At.bel ?_ hb6)); done) | (with_reducible refine At.c2' (t := 24) (x := .int .i64 xd) (y := .int .i64 xk) (z := .string xn) ?_; (repeat (first | with_reducible assumption | with_reducible apply At.drw | with_reducible refine At.al ?_ _ | with_reducible refine At.bel ?_ hb6)); done) ))) | go_keep)
              clear hK K
              (try simp only [Act.put, List.setIfInBounds_toArray, List.set_cons_zero, List.set_cons_succ])
              refine wpAnyH_take (i := 5) (v := ?_) (by simp only [List.getElem?_toArray, List.getElem?_cons_succ, List.getElem?_cons_zero]; rfl) (by kernel_rfl) (by kernel_rfl) (by kernel_rfl) (fun _ _ _ h => h) (Or.inl ⟨by rfl, ?_⟩) (by assumption) ?_
              rotate_left
              focus (intro w hSw; (try dsimp only at hSw); go_simp; first | done | with_reducible rfl)
              (try simp only [Act.put, List.setIfInBounds_toArray, List.set_cons_zero, List.set_cons_succ])
              refine wpAnyH_done (by kernel_rfl) ?_ _
              refine NoPanic.normal ?_
              go_wp2_with fail
              go_meet
              exact ⟨a5, c5, rfl, ho9, (by go_split_ands; repeat (first | with_reducible assumption | with_reducible exact Below.refl _ _ | with_reducible refine below_al ?_ _ | with_reducible refine below_drew ?_ | with_reducible refine below_drewN ?_ _ | with_reducible refine below_then ?_ hb6))⟩
            exact AllReadyH.nil
          exact AllReadyH.nil
        refine AllReadyH.cons (i := 3) (by simp only [List.getElem?_toArray, List.getElem?_cons_succ, List.getElem?_cons_zero]; rfl) (fun K hK => ?_) ?_
        · go_simp
          refine hK.out _ _ ?_ (fun hHeld => ?_)
          · (try dsimp only); (first | ((try go_split_ands); refine ⟨?_, ?_, ?_, ?_, ?_⟩; (focus ((repeat (first | with_reducible assumption | with_reducible exact Below.refl _ _ | with_reducible refine below_al ?_ _ | with_reducible refine below_drew ?_ | with_reducible refine below_drewN ?_ _ | with_reducible refine below_then ?_ hb6)); done)); (focus ((repeat (first | with_reducible assumption | with_reducible apply At.drw | with_reducible refine At.al ?_ _ | with_reducible refine At.bel ?_ hb6)); done)); (focus (first | (with_reducible refine At.c0' (t := 24) (x := .int .i64 xd) (y := .int .i64 xk) (z := .string xn) ?_; (repeat (first | with_reducible assumption | with_reducible apply At.drw | with_reducible refine At.al ?_ _ | with_reducible refine At.bel ?_ hb6)); done) | (with_reducible refine At.c1' (t := 24) (x := .int .i64 xd) (y := .int .i64 xk) (z := .string xn) ?_; (repeat (first | with_reducible assumption | with_reducible apply At.drw | with_reducible refine At.al ?_ _ | with_reducible refine At.bel ?_ hb6)); done) | (with_reducible refine At.c2' (t := 24) (x := .int .i64 xd) (y := .int .i64 xk) (z := .string xn) ?_; (repeat (first | with_reducible assumption | with_reducible apply At.drw | with_reducible refine At.al ?_ _ | with_reducible refine At.bel ?_ hb6)); done) )); (focus (first | (with_reducible refine At.c0' (t := 24) (x := .int .i64 xd) (y := .int .i64 xk) (z := .string xn) ?_; (repeat (first | with_reducible assumption | with_reducible apply At.drw | with_reducible refine At.al ?_ _ | with_reducible refine At.bel ?_ hb6)); done) | (with_reducible refine At.c1' (t := 24) (x := .int .i64 xd) (y := .int .i64 xk) (z := .string xn) ?_; (repeat (first | with_reducible assumption | with_reducible apply At.drw | with_reducible refine At.al ?_ _ | with_reducible refine At.bel ?_ hb6)); done) | (with_reducible refine At.c2' (t := 24) (x := .int .i64 xd) (y := .int .i64 xk) (z := .string xn) ?_; (repeat (first | with_reducible assumption | with_reducible apply At.drw | with_reducible refine At.al ?_ _ | with_reducible refine At.bel ?_ hb6)); done) )); (focus (first | (with_reducible refine At.c0' (t := 24) (x := .int .i64 xd) (y := .int .i64 xk) (z := .string xn) ?_; (repeat (first | with_reducible assumption | with_reducible apply At.drw | with_reducible refine At.al ?_ _ | with_reducible refine At.bel ?_ hb6)); done) | (with_reducible refine At.c1' (t := 24) (x := .int .i64 xd) (y := .int .i64 xk) (z := .string xn) ?_; (repeat (first | with_reducible assumption | with_reducible apply At.drw | with_reducible refine At.al ?_ _ | with_reducible refine At.bel ?_ hb6)); done) | (with_reducible refine At.c2' (t := 24) (x := .int .i64 xd) (y := .int .i64 xk) (z := .string xn) ?_; (repeat (first | with_reducible assumption | with_reducible apply At.drw | with_reducible refine At.al ?_ _ | with_reducible refine At.bel ?_ hb6)); done) ))) | go_keep)
          clear hK K
          (try simp only [Act.put, List.setIfInBounds_toArray, List.set_cons_zero, List.set_cons_succ])
          refine wpAnyH_ready (rs := [1]) (by kernel_rfl) (by simp) ?_
          refine AllReadyH.cons (i := 1) (by simp only [List.getElem?_toArray, List.getElem?_cons_succ, List.getElem?_cons_zero]; rfl) (fun K hK => ?_) ?_
          · go_simp
            (go_at_call 29; refine (HCL.out _ (by go_split_ands; repeat (first | with_reducible assumption | with_reducible exact Below.refl _ _ | with_reducible refine below_al ?_ _ | with_reducible refine below_drew ?_ | with_reducible refine below_drewN ?_ _ | with_reducible refine below_then ?_ hb6))).mono ?_; rintro e w8 ⟨⟨cy, cc, rfl, hcl0⟩, hb6⟩; have hcl := own_weak (base' := wr.heap.size) hcl0.out (Below.size (B := wr.heap.size) (w := wr) (by go_split_ands; repeat (first | with_reducible assumption | with_reducible exact Below.refl _ _ | with_reducible refine below_al ?_ _ | with_reducible refine below_drew ?_ | with_reducible refine below_drewN ?_ _ | with_reducible refine below_then ?_ hb6))))
            have kb : At w8 wr.heap.size 24 #[.int .i64 xd, .int .i64 xk, .string xn] := (by first | exact At.bel (At.new' rfl) hb6 | exact At.bel (At.drw (At.new' rfl)) hb6)
            (try go_wp2_with fail)
            refine hK.out _ _ ?_ (fun hHeld => ?_)
            · (try dsimp only); (first | ((try go_split_ands); refine ⟨?_, ?_, ?_, ?_, ?_⟩; (focus ((repeat (first | with_reducible assumption | with_reducible exact Below.refl _ _ | with_reducible refine below_al ?_ _ | with_reducible refine below_drew ?_ | with_reducible refine below_drewN ?_ _ | with_reducible refine below_then ?_ hb6)); done)); (focus ((repeat (first | with_reducible assumption | with_reducible apply At.drw | with_reducible refine At.al ?_ _ | with_reducible refine At.bel ?_ hb6)); done)); (focus (first | (with_reducible refine At.c0' (t := 24) (x := .int .i64 xd) (y := .int .i64 xk) (z := .string xn) ?_; (repeat (first | with_reducible assumption | with_reducible apply At.drw | with_reducible refine At.al ?_ _ | with_reducible refine At.bel ?_ hb6)); done) | (with_reducible refine At.c1' (t := 24) (x := .int .i64 xd) (y := .int .i64 xk) (z := .string xn) ?_; (repeat (first | with_reducible assumption | with_reducible apply At.drw | with_reducible refine At.al ?_ _ | with_reducible refine At.bel ?_ hb6)); done) | (with_reducible refine At.c2' (t := 24) (x := .int .i64 xd) (y := .int .i64 xk) (z := .string xn) ?_; (repeat (first | with_reducible assumption | with_reducible apply At.drw | with_reducible refine At.al ?_ _ | with_reducible refine At.bel ?_ hb6)); done) )); (focus (first | (with_reducible refine At.c0' (t := 24) (x := .int .i64 xd) (y := .int .i64 xk) (z := .string xn) ?_; (repeat (first | with_reducible assumption | with_reducible apply At.drw | with_reducible refine At.al ?_ _ | with_reducible refine At.bel ?_ hb6)); done) | (with_reducible refine At.c1' (t := 24) (x := .int .i64 xd) (y := .int .i64 xk) (z := .string xn) ?_; (repeat (first | with_reducible assumption | with_reducible apply At.drw | with_reducible refine At.al ?_ _ | with_reducible refine At.bel ?_ hb6)); done) | (with_reducible refine At.c2' (t := 24) (x := .int .i64 xd) (y := .int .i64 xk) (z := .string xn) ?_; (repeat (first | with_reducible assumption | with_reducible apply At.drw | with_reducible refine At.al ?_ _ | with_reducible refine At.bel ?_ hb6)); done) )); (focus (first | (with_reducible refine At.c0' (t := 24) (x := .int .i64 xd) (y := .int .i64 xk) (z := .string xn) ?_; (repeat (first | with_reducible assumption | with_reducible apply At.drw | with_reducible refine At.al ?_ _ | with_reducible refine At.bel ?_ hb6)); done) | (with_reducible refine At.c1' (t := 24) (x := .int .i64 xd) (y := .int .i64 xk) (z := .string xn) ?_; (repeat (first | with_reducible assumption | with_reducible apply At.drw | with_reducible refine At.al ?_ _ | with_reducible refine At.bel ?_ hb6)); done) | (with_reducible refine At.c2' (t := 24) (x := .int .i64 xd) (y := .int .i64 xk) (z := .string xn) ?_; (repeat (first | with_reducible assumption | with_reducible apply At.drw | with_reducible refine At.al ?_ _ | with_reducible refine At.bel ?_ hb6)); done) ))) | go_keep)
            clear hK K
            (try simp only [Act.put, List.setIfInBounds_toArray, List.set_cons_zero, List.set_cons_succ])
            refine wpAnyH_ready (rs := [4]) (by kernel_rfl) (by simp) ?_
            refine AllReadyH.cons (i := 4) (by simp only [List.getElem?_toArray, List.getElem?_cons_succ, List.getElem?_cons_zero]; rfl) (fun K hK => ?_) ?_
            · (refine step_append_w _ rfl (.tmp 80) (.tmp 82) 34 rfl wr.heap.size 24 i0 (.agg #[.int .i64 0, .int .i64 0, .string ⟨#[]⟩]) 3 32 Tryd.underlying34 hi hz0 hz1 hz2 rfl (by decide) (.slice cy L cc) L (l.flatMap encE) (by first | rfl | (simp [Act.eval]; done)) hcl ⟨wr.heap.size, 0, none⟩ 1 1 [.int .i64 xd, .int .i64 xk, .string xn] (by first | rfl | (simp [Act.eval]; done)) rfl (three_new kb) (by intro u hu; simp at hu; rcases hu with rfl | rfl | rfl <;> rfl) (by have := hll.out; unfold maxLen; omega) (by have := hll.out; omega) (Below.size (B := wr.heap.size) (w := wr) (by go_split_ands; repeat (first | with_reducible assumption | with_reducible exact Below.refl _ _ | with_reducible refine below_al ?_ _ | with_reducible refine below_drew ?_ | with_reducible refine below_drewN ?_ _ | with_reducible refine below_then ?_ hb6))) ?_; intro a5 c5 w9 ho9 hg9 hloc9; have hB9 : Below wr.heap.size wr w9 := below_grown (by go_split_ands; repeat (first | with_reducible assumption | with_reducible exact Below.refl _ _ | with_reducible refine below_al ?_ _ | with_reducible refine below_drew ?_ | with_reducible refine below_drewN ?_ _ | with_reducible refine below_then ?_ hb6)) hg9 (fun j hj => (own_lt hcl hj).2); have kx9 : At w9 w.heap.size 24 #[.int .i64 xd, .int .i64 xk, .string xn] := At.bel kx hB9; replace ho9 := Lib.hid (row_pushL hLn.out ho9); clear hg9 hloc9)
              refine hK.out _ _ ?_ (fun hHeld => ?_)
              · (try dsimp only); (first | ((try go_split_ands); refine ⟨?_, ?_, ?_, ?_, ?_⟩; (focus ((repeat (first | with_reducible assumption | with_reducible exact Below.refl _ _ | with_reducible refine below_al ?_ _ | with_reducible refine below_drew ?_ | with_reducible refine below_drewN ?_ _ | with_reducible refine below_then ?_ hb6)); done)); (focus ((repeat (first | with_reducible assumption | with_reducible apply At.drw | with_reducible refine At.al ?_ _ | with_reducible refine At.bel ?_ hb6)); done)); (focus (first | (with_reducible refine At.c0' (t := 24) (x := .int .i64 xd) (y := .int .i64 xk) (z := .string xn) ?_; (repeat (first | with_reducible assumption | with_reducible apply At.drw | with_reducible refine At.al ?_ _ | with_reducible refine At.bel ?_ hb6)); done) | (with_reducible refine At.c1' (t := 24) (x := .int .i64 xd) (y := .int .i64 xk) (z := .string xn) ?_; (repeat (first | with_reducible assumption | with_reducible apply At.drw | with_reducible refine At.al ?_ _ | with_reducible refine At.bel ?_ hb6)); done) | (with_reducible refine At.c2' (t := 24) (x := .int .i64 xd) (y := .int .i64 xk) (z := .string xn) ?_; (repeat (first | with_reducible assumption | with_reducible apply At.drw | with_reducible refine At.al ?_ _ | with_reducible refine At.bel ?_ hb6)); done) )); (focus (first | (with_reducible refine At.c0' (t := 24) (x := .int .i64 xd) (y := .int .i64 xk) (z := .string xn) ?_; (repeat (first | with_reducible assumption | with_reducible apply At.drw | with_reducible refine At.al ?_ _ | with_reducible refine At.bel ?_ hb6)); done) | (with_reducible refine At.c1' (t := 24) (x := .int .i64 xd) (y := .int .i64 xk) (z := .string xn) ?_; (repeat (first | with_reducible assumption | with_reducible apply At.drw | with_reducible refine At.al ?_ _ | with_reducible refine At.bel ?_ hb6)); done) | (with_reducible refine At.c2' (t := 24) (x := .int .i64 xd) (y := .int .i64 xk) (z := .string xn) ?_; (repeat (first | with_reducible assumption | with_reducible apply At.drw | with_reducible refine At.al ?_ _ | with_reducible refine At.bel ?_ hb6)); done) )); (focus (first | (with_reducible refine At.c0' (t := 24) (x := .int .i64 xd) (y := .int .i64 xk) (z := .string xn) ?_; (repeat (first | with_reducible assumption | with_reducible apply At.drw | with_reducible refine At.al ?_ _ | with_reducible refine At.bel ?_ hb6)); done) | (with_reducible refine At.c1' (t := 24) (x := .int .i64 xd) (y := .int .i64 xk) (z := .string xn) ?_; (repeat (first | with_reducible assumption | with_reducible apply At.drw | with_reducible refine At.al ?_ _ | with_reducible refine At.bel ?_ hb6)); done) | (with_reducible refine At.c2' (t := 24) (x := .int .i64 xd) (y := .int .i64 xk) (z := .string xn) ?_; (repeat (first | with_reducible assumption | with_reducible apply At.drw | with_reducible refine At.al ?_ _ | with_reducible refine At.bel ?_ hb6)); done) ))) | go_keep)
              clear hK K
              (try simp only [Act.put, List.setIfInBounds_toArray, List.set_cons_zero, List.set_cons_succ])
              refine wpAnyH_take (i := 5) (v := ?_) (by simp only [List.getElem?_toArray, List.getElem?_cons_succ, List.getElem?_cons_zero]; rfl) (by kernel_rfl) (by kernel_rfl) (by kernel_rfl) (fun _ _ _ h => h) (Or.inl ⟨by rfl, ?_⟩) (by assumption) ?_
              rotate_left
              focus (intro w hSw; (try dsimp only at hSw); go_simp; first | done | with_reducible rfl)
              (try simp only [Act.put, List.setIfInBounds_toArray, List.set_cons_zero, List.set_cons_succ])
              refine wpAnyH_done (by kernel_rfl) ?_ _
              refine NoPanic.normal ?_
              go_wp2_with fail
              go_meet
              exact ⟨a5, c5, rfl, ho9, (by go_split_ands; repeat (first | with_reducible assumption | with_reducible exact Below.refl _ _ | with_reducible refine below_al ?_ _ | with_reducible refine below_drew ?_ | with_reducible refine below_drewN ?_ _ | with_reducible refine below_then ?_ hb6))⟩
            exact AllReadyH.nil
          exact AllReadyH.nil
        exact AllReadyH.nil
      case rest =>
        obtain ⟨ma, mc, rfl, hmo, hbc⟩ := hcut
        replace HB := below_then HB hbc
        replace kx := At.bel kx hbc
        replace hv := Lib.hid (hv.out.up hbc)
        clear hbc x0 x1 x2 HCL
        obtain ⟨x0, x1, x2⟩ := kx.three
        have HA := Lib.hid (append_v (encJ l) _ (.inl (by have := hJl.out; omega)) xd xk xn hd0.out hk0.out hxn.out wc (he0.out.bel HB) hv.out)
        go_wp2_with fail
        refine HA.out.mono ?_
        rintro e w5 ⟨⟨cv, er, rfl, her, hcv⟩, hb5⟩
        replace HB := below_then HB hb5
        replace hmo := Lib.hid (World.ownsRow_up hmo.out hb5)
        have HV := Lib.hid (jvalid_own hmo.out (by have := hll.out; have := hLn.out; simp; omega) hnml.out)
        rw [hvb.out] at HV
        obtain ⟨ca, cn, cc, rfl, hcn, -⟩ := hcv.out.shape
        replace hcn := Lib.hid hcn
        clear HA hb5 x0 x1 x2 kx
        go_wp2_with fail
        refine HV.out.mono ?_
        rintro e w6 ⟨rfl, hb6⟩
        replace HB := below_then HB hb6
        replace hcv := Lib.hid (hcv.out.up hb6)
        have hmE : Hid (IsE (l ++ [(⟨xd, xk, xn⟩ : Ent)]) (.slice ma (L + 1) mc) w6) := Lib.hid ((row_isE hmo.out).up hb6)
        clear HV hb6 hmo
        rcases vb with _ | _
        · obtain ⟨h1, h2⟩ := happ.out.1 hvb.out
          have her2 : er = 1 := her.out.trans h1
          subst her2
          have hz : cn = 0 := by rw [hcn.out, h2]; rfl
          subst hz
          clear h1 h2 her
          go_wp2_with fail
          go_ret
          exact ⟨rfl, HB⟩
        · obtain ⟨h1, h2⟩ := happ.out.2 hvb.out
          have her2 : er = 0 := her.out.trans h1
          subst her2
          rw [h2] at hcv
          have HE := Lib.hid (enc_v _ _ w6 hnml.out (he0.out.bel HB) hmE.out)
          rw [hvb.out] at HE
          clear h1 h2 her
          go_wp2_with fail
          refine HE.out.mono ?_
          rintro e w7 ⟨⟨-, hE2⟩, hb7⟩
          obtain ⟨dv, rfl, hdv⟩ := hE2 rfl
          replace HB := below_then HB hb7
          replace hcv := Lib.hid (hcv.out.up hb7)
          obtain ⟨da, dn, dc, rfl, -, -⟩ := hdv.out.shape
          have HQ := Lib.hid (beq_v _ _ _ _ w7 hcv.out hdv.out)
          rw [decide_eq_true rfl] at HQ
          clear hE2 hb7 HE
          go_wp2_with fail
          refine HQ.out.mono ?_
          rintro e wn ⟨rfl, rfl⟩
          go_wp2_with fail
          go_ret
          exact ⟨rfl, HB⟩

end Go.Proofs.YtdcfpopbnkafaaaDoor
