/- journal: Encode. -/
import Derived.Test.YtcokobdffbhpeaaGreatDoorCJ24
set_option linter.unusedVariables false
namespace Go.Proofs.YtcokobdffbhpeaaGreatDoor
open Go.ChangeShapes Go.WideShapes Go.ChangeAt Go.RowKit
open Go.Lib (decDigits itoa itoa_nonneg)
theorem infoU8 : (Tryz.prog.info? 5).map (fun i => (i.zero, i.size, i.bytes)) = some (some (.int .u8 0), 1, 1) := by kernel_rfl
theorem IsB.src {l : List UInt8} {v : Value} {w : World} (h : IsB l v w) (hl : 1 ≤ l.length) : ∃ b off c, v = .slice (some ⟨b, off, none⟩) l.length c ∧ ((l.flatMap encU).length = l.length * 1) ∧ (∀ j u, (l.flatMap encU)[j]? = some u → w.cell? ((⟨b, off, none⟩ : Addr).add j) = some u) ∧ ∀ u ∈ l.flatMap encU, u.oneCell' = true := by
  obtain ⟨a, c, rfl, h2, h3, h4, h5⟩ := h
  obtain ⟨b, off, rfl, _, _⟩ := h4.byte 0 (by omega)
  refine ⟨b, off, c, rfl, flat_len encU_len l, fun j u hu => ?_, fun u hu => ?_⟩
  · have := h4.flat encU_len (by decide) j u hu
    rw [← this]
    cases j <;> simp [Addr.add]
  · obtain ⟨x, _, hx⟩ := List.mem_flatMap.1 hu
    simp [encU] at hx
    subst hx
    rfl
theorem rec_len {p : List UInt8} {x : Ent} (h : entOk x = true) : (recE p x).length ≤ 70 ∧ x.name.size ≤ 20 := by
  have hw := WordsOk.of h
  unfold entOk at h
  simp only [Bool.and_eq_true, decide_eq_true_eq] at h
  obtain ⟨⟨⟨⟨h1, h2⟩, h3⟩, h4⟩, h5⟩ := h
  unfold nameB at h5
  simp only [Bool.and_eq_true, decide_eq_true_eq] at h5
  have hz : x.name.size ≤ 20 := h5.1.1.2
  have e1 := hw.dl
  have e2 := hw.kl
  have e3 := dec_le10 (sumF_lt (lineE x) (sumB p) (sumB_lt p))
  have e4 : (by_ x.name).length = x.name.size := rfl
  refine ⟨?_, hz⟩
  unfold recE lineE
  unfold lineE at e3
  simp only [List.length_append, List.length_cons, List.length_nil]
  omega
theorem enc_len : ∀ (l : List Ent) (p : List UInt8), (∀ x ∈ l, entOk x = true) → (encF p l).length ≤ p.length + 70 * l.length
  | [], p, _ => by simp [encF]
  | x :: l, p, h => by
    have h1 := (rec_len (p := p) (h x (by simp))).1
    have h2 := enc_len l (p ++ recE p x) (fun y hy => h y (by simp [hy]))
    simp only [List.length_append] at h2
    show (encF (p ++ recE p x) l).length ≤ _
    simp only [List.length_cons]
    omega
theorem encJ_take {l : List Ent} {k : Nat} (hk : k < l.length) : encJ (l.take (k + 1)) = encJ (l.take k) ++ recE (encJ (l.take k)) l[k] := by
  rw [List.take_succ_eq_append_getElem hk]
  exact encF_snoc _ _ _
def EncP (l : List Ent) (vl : Bool) (e : Ending) (w' : World) : Prop := (vl = false → e = .returned (.tuple #[.slice none 0 0, .int .i64 1])) ∧ (vl = true → ∃ y, e = .returned (.tuple #[y, .int .i64 0]) ∧ Hid (IsB (encJ l) y w'))
set_option maxRecDepth 100000 in
set_option maxHeartbeats 2000000 in
theorem encode_v (l : List Ent) (ao : Option Addr) (cap : Nat) (hl : l.length ≤ cap) (hc : cap ≤ 9223372036854775807) (hs : ∀ x ∈ l, x.name.size ≤ 10000) (w : World) (he : Env w) (ha : RowAt encE 3 w.heap.size w ao l) :
    Calls Tryz.prog 8 #[.slice ao l.length cap] w fun e w' => EncP l (logV l) e w' ∧ Below w.heap.size w w' := by
  obtain ⟨iU, hu, hu0, hu1, hu2⟩ := info_parts infoU8
  have HV := Lib.hid (jvalid_any l ao cap hl hc (Lib.hid fun x hx => by have := hs x hx; omega) w (Lib.hid ha))
  obtain ⟨vl, hvl⟩ : ∃ vl, logV l = vl := ⟨_, rfl⟩
  rw [hvl] at HV ⊢
  have up2 : Hid (∀ u, Below w.heap.size w u → RowAt encE 3 u.heap.size u ao l) := Lib.hid fun u hb => (ha.bel (Nat.le_refl _) hb).mono hb.size
  have hgood : Hid (vl = true → l.length ≤ 1000 ∧ ∀ x ∈ l, entOk x = true) := Lib.hid fun h => by
    rw [← hvl] at h
    refine ⟨?_, fun x hx => logV_ent h hx⟩
    unfold logV at h
    simp only [Bool.and_eq_true, decide_eq_true_eq] at h
    exact h.1.1
  obtain ⟨n, hn⟩ : ∃ n, l.length = n := ⟨_, rfl⟩
  rw [hn] at hl HV hgood ⊢
  replace hn := Lib.hid hn
  have he' := Lib.hid he
  clear hs ha he hvl
  go_enter Tryz.func8, Tryz.ntmps8
  go_wp2_with fail
  refine HV.out.mono ?_
  rintro e w1 ⟨rfl, HB⟩
  clear HV
  cases vl
  · go_wp2_with fail
    exact bodyPost_ret (v := .tuple #[.slice none 0 0, .int .i64 1]) (by simp [results, Tryz.results8, go_sem]) rfl ⟨⟨(fun _ => rfl), (fun h => by cases h)⟩, HB⟩
  replace hgood := Lib.hid (hgood.out rfl)
  have hn1 : n ≤ 1000 := hgood.out.1
  go_wp2_with fail
  go_loopg [12, 4] n (fun g i v wr => ∃ (k : Nat) (v0 : Value), v0 = v ∧ k ≤ n ∧ i = .int .i64 (k : Int) ∧ Hid (g = n - k) ∧ Below w.heap.size w wr ∧ Hid (wr.ownsRow w.heap.size 5 1 v (encJ (l.take k)).length ((encJ (l.take k)).flatMap encU)))
  case atStart => exact ⟨0, _, rfl, Nat.zero_le _, rfl, Lib.hid rfl, HB, Lib.hid (World.ownsRow_nil _ _ _ _)⟩
  case round =>
    clear HB
    obtain ⟨k, v, rfl, hk, rfl, hr, HB, ho⟩ := hrel
    by_cases hlt : k < n
    · have hkl : Hid (k < l.length) := Lib.hid (by rw [hn.out]; exact hlt)
      obtain ⟨b, off, rfl, e0, e1, e2, hb⟩ := (up2.out wr HB).ent k hkl.out
      have hx1 := Lib.hid (rec_len (p := encJ (l.take k)) (hgood.out.2 _ (List.getElem_mem hkl.out)))
      have hx2 := Lib.hid (hgood.out.2 _ (List.getElem_mem hkl.out))
      have hJ := Lib.hid (encJ_take hkl.out)
      have hz : Hid ((encJ (l.take k)).length ≤ 70 * k) := Lib.hid (by
        have := enc_len (l.take k) [] (fun x hx => hgood.out.2 x (List.mem_of_mem_take hx))
        simp only [List.length_nil, List.length_take] at this
        show (encF [] (l.take k)).length ≤ _
        omega)
      obtain ⟨x, hx⟩ : ∃ x, l[k]'hkl.out = x := ⟨_, rfl⟩
      rw [hx] at e0 e1 e2 hx1 hx2 hJ
      clear hx hb
      obtain ⟨xd, xk, xn⟩ := x
      dsimp only at e0 e1 e2 hx1
      obtain ⟨J, hJ0⟩ : ∃ J, encJ (l.take k) = J := ⟨_, rfl⟩
      rw [hJ0] at ho hx1 hJ hz
      clear hJ0
      go_upto_region 7 with fail
      generalize hWW : World.alloc _ _ = W1
      have kx : At W1 wr.heap.size 39 #[.int .i64 xd, .int .i64 xk, .string xn] := by rw [← hWW]; exact At.new' rfl
      have hbW : Below wr.heap.size wr W1 := by rw [← hWW]; exact below_al (Below.refl _ _) _
      clear hWW e0 e1 e2
      replace HB := below_then HB hbW
      replace ho := Lib.hid (World.ownsRow_up ho.out hbW)
      obtain ⟨x0, x1, x2⟩ := kx.three
      have hbd : Hid ((-9223372036854775808 ≤ xd ∧ xd ≤ 9223372036854775807) ∧ (-9223372036854775808 ≤ xk ∧ xk ≤ 9223372036854775807)) := Lib.hid (by
        have h := hx2.out
        unfold entOk at h
        simp only [Bool.and_eq_true, decide_eq_true_eq] at h
        omega)
      have HR := Lib.hid (record_v J v xd xk xn hbd.out.1 hbd.out.2 (by have := hx1.out.2; omega) W1 (he'.out.bel HB).tab (row_isB ho.out))
      clear hbW kx
      go_wp2_with fail
      refine HR.out.mono ?_
      rintro e w4 ⟨⟨y, rfl, hy⟩, hb4⟩
      replace HB := below_then HB hb4
      replace ho := Lib.hid (World.ownsRow_up ho.out hb4)
      obtain ⟨rb, ro, rc, rfl, q1, q2, q3⟩ := hy.out.src (rec_pos _ _)
      obtain ⟨rn, hrn⟩ : ∃ rn, (recE J ⟨xd, xk, xn⟩).length = rn := ⟨_, rfl⟩
      obtain ⟨rnews, hrw⟩ : ∃ rnews, (recE J ⟨xd, xk, xn⟩).flatMap encU = rnews := ⟨_, rfl⟩
      have hrz : Hid (J.length + rn ≤ 100000) := Lib.hid (by have := hx1.out.1; have := hz.out; omega)
      rw [hrn, hrw] at q1
      rw [hrw] at q2 q3
      have hrl := Lib.hid q1
      have hrc := Lib.hid q2
      have hr1 := Lib.hid q3
      have hJ2 : Hid (encJ (l.take (k + 1)) = J ++ recE J ⟨xd, xk, xn⟩) := hJ
      rw [hrn]
      replace hrn := Lib.hid hrn
      replace hrw := Lib.hid hrw
      clear hb4 HR x0 x1 x2 q1 q2 q3 hx1 hx2 hbd hz hJ
      go_wp2_with (at_builtin; refine wpList_append_own_at _ rfl _ _ 32 rfl w.heap.size 5 iU (.int .u8 0) 1 1 Tryz.underlying32 hu hu0 hu1 hu2 rfl (by decide) _ _ _ rfl ho.out ⟨rb, ro, none⟩ rn rc rnews rfl hrl.out hrc.out hr1.out (by have := hrz.out; unfold maxLen; omega) (by have := hrz.out; omega) (by have := HB.size; first | omega | (simp; omega)) ?_)
      intro v' w5 ho1 hg1 hnil hloc
      have hb5 : Below w.heap.size w w5 := HB.grown hg1 (by have := HB.size; omega) (fun j hj => by
        obtain ⟨_, ⟨q1, _⟩ | ⟨q, _, _, q1, q2, _⟩⟩ := ho.out
        · rw [q1] at hj; cases hj
        · rw [q1] at hj; injection hj with hj; have hj : q = j := hj; omega)
      have ho2 : Hid (w5.ownsRow w.heap.size 5 1 v' (encJ (l.take (k + 1))).length ((encJ (l.take (k + 1))).flatMap encU)) := Lib.hid (by
        rw [hJ2.out, List.length_append, List.flatMap_append, hrn.out, hrw.out]
        exact ho1)
      clear hg1 hnil hloc ho1
      go_wp2_with fail
      go_roundg (n - (k + 1))
      case measure => have := hr.out; omega
      case rel => exact ⟨k + 1, v', rfl, by omega, by go_num, Lib.hid rfl, hb5, ho2⟩
    · have hE : Hid (l.take k = l) := Lib.hid (List.take_of_length_le (by have := hn.out; omega))
      rw [hE.out] at ho
      go_wp2_with fail
      exact bodyPost_ret (v := .tuple #[v, .int .i64 0]) (by simp [results, Tryz.results8, go_sem]) rfl ⟨⟨(fun h => by cases h), fun _ => ⟨v, rfl, Lib.hid (row_isB ho.out)⟩⟩, HB⟩
end Go.Proofs.YtcokobdffbhpeaaGreatDoor
