import Derived.Test.YtccakklnbhcbdaaGreatDoorFQi
import Derived.Test.YtccakklnbhcbdaaGreatDoorFMTxt
import Derived.Lib.ItoaLen
import Derived.Test.YtccakklnbhcbdaaGreatDoorFSwD
set_option linter.unusedVariables false
set_option linter.unusedSimpArgs false
namespace Go.Proofs.YtccakklnbhcbdaaGreatDoor
open Go.ChangeShapes Go.WideShapes Go.ChangeAt Go.RowKit
open Go.Lib (decDigits itoa)
theorem dec_len (n : Nat) (h : n ≤ 9223372036854775807) : (decDigits n).length ≤ 21 := by
 have := Lib.itoa_length_le (n : Int) (by omega) (by omega)
 rwa [Lib.itoa_nonneg] at this
theorem digit_enc : ∀ r : Fin 10, Utf8.encode (48 + (r.val : Int)) = (⟨#[UInt8.ofNat (48 + r.val)]⟩ : ByteArray) := by decide +kernel
theorem conv_digit (r : Nat) (hr : r < 10) (w : World) : (convert 21 9 (.int .i32 (48 + (r : Int)))).run Tryz.prog w = .ok (.string ⟨#[UInt8.ofNat (48 + r)]⟩) w := by
 have := digit_enc ⟨r, hr⟩
 simp only at this
 simp [convert, run_underlying Tryz.underlying21, run_underlying Tryz.underlying9, Conv.intToString, this]
set_option maxRecDepth 100000 in
set_option maxHeartbeats 1000000 in
theorem dec23_any : ∀ (n : Nat), n ≤ 9223372036854775807 → ∀ w : World, Calls Tryz.prog 87 #[.int .i64 (n : Int)] w fun e w' => e = .returned (.string ⟨(decDigits n).toArray⟩) ∧ w = w' := by
 intro n
 induction n using Nat.strongRecOn with
 | _ n ih =>
 intro hn w
 obtain ⟨q, hq⟩ : ∃ q, n / 10 = q := ⟨_, rfl⟩
 obtain ⟨r, hr⟩ : ∃ r, n % 10 = r := ⟨_, rfl⟩
 have hr9 : r < 10 := by omega
 have e1 : (n : Int) % 10 = (r : Int) := by omega
 have e2 : (n : Int) / 10 = (q : Int) := by omega
 have e3 : Int.tmod (n : Int) 10 = (r : Int) := by rw [Int.tmod_eq_emod_of_nonneg (by omega)]; omega
 have e4 : Int.tdiv (n : Int) 10 = (q : Int) := by rw [Int.tdiv_eq_ediv_of_nonneg (by omega)]; omega
 have e5 : IntKind.i64.wrap (q : Int) = (q : Int) := IntWalk.i64_in _ (by omega)
 have e6 : IntKind.i64.wrap (r : Int) = (r : Int) := IntWalk.i64_in _ (by omega)
 have e7 : IntKind.i64.wrap (48 + (r : Int)) = 48 + (r : Int) := IntWalk.i64_in _ (by omega)
 have e8 : IntKind.i32.wrap (48 + (r : Int)) = 48 + (r : Int) := by rw [IntKind.wrap_i32]; omega
 have cv := conv_digit r hr9
 obtain ⟨d, hd⟩ : ∃ d : ByteArray, (⟨#[UInt8.ofNat (48 + r)]⟩ : ByteArray) = d := ⟨_, rfl⟩
 rw [hd] at cv
 have bd : d.size ≤ 1 := by rw [← hd]; exact Nat.le_refl 1
 by_cases h : n < 10
 ·have hE : Hid (d = (⟨(decDigits n).toArray⟩ : ByteArray)) := Lib.hid (by rw [Lib.decDigits_one h, ← hd, show r = n by omega])
  clear ih hd hq hr
  go_enter Tryz.func87, Tryz.ntmps87
  go_wp2_with fail
  go_ret
  exact ⟨by rw [← hE.out]; rfl, rfl⟩
 ·have HI := Lib.hid (ih q (by omega) (by omega) w)
  have bl := dec_len q (by omega)
  have hS : Hid ((⟨(decDigits q).toArray⟩ : ByteArray) ++ d = ⟨(decDigits n).toArray⟩) := Lib.hid (by_inj (by
   rw [by_append, mk_by, mk_by, dec_step (n := n) (by omega), hq, hr, ← hd]))
  have bo : (⟨(decDigits q).toArray⟩ : ByteArray).size ≤ 50 := by rw [mk_size]; omega
  generalize (⟨(decDigits q).toArray⟩ : ByteArray) = D at *
  clear ih hd hq hr bl
  go_enter Tryz.func87, Tryz.ntmps87
  go_wp2_with fail
  refine HI.out.mono ?_
  rintro e w1 ⟨rfl, rfl⟩
  go_wp2_with fail
  go_ret
  exact ⟨by rw [← hS.out]; rfl, rfl⟩
set_option maxRecDepth 100000 in
set_option maxHeartbeats 1000000 in
theorem dec23_neg : ∀ (m : Nat), 1 ≤ m → m ≤ 9223372036854775807 → ∀ w : World, Calls Tryz.prog 87 #[.int .i64 (-(m : Int))] w fun e w' => e = .returned (.string ⟨(45 :: decDigits m).toArray⟩) ∧ w = w' := by
 intro m
 induction m using Nat.strongRecOn with
 | _ m ih =>
 intro hm1 hm w
 obtain ⟨q, hq⟩ : ∃ q, m / 10 = q := ⟨_, rfl⟩
 obtain ⟨r, hr⟩ : ∃ r, m % 10 = r := ⟨_, rfl⟩
 have hr9 : r < 10 := by omega
 obtain ⟨N, hN⟩ : ∃ N : Int, -(m : Int) = N := ⟨_, rfl⟩
 obtain ⟨Q, hQ⟩ : ∃ Q : Int, -(q : Int) = Q := ⟨_, rfl⟩
 obtain ⟨M, hM⟩ : ∃ M : Int, -(r : Int) = M := ⟨_, rfl⟩
 have e3 : Int.tmod N 10 = M := by rw [← hN, Int.neg_tmod, Int.tmod_eq_emod_of_nonneg (by omega)]; omega
 have e4 : Int.tdiv N 10 = Q := by rw [← hN, Int.neg_tdiv, Int.tdiv_eq_ediv_of_nonneg (by omega)]; omega
 have e5 : IntKind.i64.wrap Q = Q := IntWalk.i64_in _ (by omega)
 have e6 : IntKind.i64.wrap M = M := IntWalk.i64_in _ (by omega)
 have e7 : IntKind.i64.wrap (48 - M) = 48 + (r : Int) := by rw [show 48 - M = 48 + (r : Int) by omega]; exact IntWalk.i64_in _ (by omega)
 have e8 : IntKind.i32.wrap (48 + (r : Int)) = 48 + (r : Int) := by rw [IntKind.wrap_i32]; omega
 have cv := conv_digit r hr9
 obtain ⟨d, hd⟩ : ∃ d : ByteArray, (⟨#[UInt8.ofNat (48 + r)]⟩ : ByteArray) = d := ⟨_, rfl⟩
 rw [hd] at cv
 have bd : d.size ≤ 1 := by rw [← hd]; exact Nat.le_refl 1
 rw [hN]
 have hneg : decide (N < 0) = true := decide_eq_true (by omega)
 by_cases h : m < 10
 ·have hE : Hid ((⟨#[45]⟩ : ByteArray) ++ d = ⟨(45 :: decDigits m).toArray⟩) := Lib.hid (by_inj (by
   rw [by_append, mk_by, Lib.decDigits_one h, ← hd, show r = m by omega]; rfl))
  have h10 : decide (-10 < N) = true := decide_eq_true (by omega)
  have e9 : IntKind.i64.wrap (48 - N) = 48 + (r : Int) := by rw [show 48 - N = 48 + (r : Int) by omega]; exact IntWalk.i64_in _ (by omega)
  have h45 : (⟨#[45]⟩ : ByteArray).size = 1 := rfl
  clear ih hd hq hr hN hQ hM e3 e4 e5 e6 e7
  go_enter Tryz.func87, Tryz.ntmps87
  go_wp2_with fail
  go_ret
  exact ⟨by rw [← hE.out]; rfl, rfl⟩
 ·have HI := Lib.hid (ih q (by omega) (by omega) (by omega) w)
  rw [hQ] at HI
  have bl := dec_len q (by omega)
  have h10 : decide (-10 < N) = false := decide_eq_false (by omega)
  have hS : Hid ((⟨(45 :: decDigits q).toArray⟩ : ByteArray) ++ d = ⟨(45 :: decDigits m).toArray⟩) := Lib.hid (by_inj (by
   rw [by_append, mk_by, mk_by, dec_step (n := m) (by omega), hq, hr, ← hd]; rfl))
  have bo : (⟨(45 :: decDigits q).toArray⟩ : ByteArray).size ≤ 50 := by rw [mk_size, List.length_cons]; omega
  generalize (⟨(45 :: decDigits q).toArray⟩ : ByteArray) = D at *
  clear ih hd hq hr bl hN hQ hM
  go_enter Tryz.func87, Tryz.ntmps87
  go_wp2_with fail
  refine HI.out.mono ?_
  rintro e w1 ⟨rfl, rfl⟩
  go_wp2_with fail
  go_ret
  exact ⟨by rw [← hS.out]; rfl, rfl⟩
theorem dec23 (n : Int) (h : -9223372036854775807 ≤ n ∧ n ≤ 9223372036854775807) (w : World) : Calls Tryz.prog 87 #[.int .i64 n] w fun e w' => e = .returned (.string ⟨(Lib.itoa n).toArray⟩) ∧ w = w' := by
 by_cases hn : n < 0
 ·have := dec23_neg n.natAbs (by omega) (by omega) w
  rw [show -((n.natAbs : Nat) : Int) = n by omega] at this
  rwa [show Lib.itoa n = 45 :: decDigits n.natAbs by rw [show n = -((n.natAbs : Nat) : Int) by omega, Lib.itoa_neg _ (by omega)]; simp]
 ·have := dec23_any n.natAbs (by omega) w
  rw [show ((n.natAbs : Nat) : Int) = n by omega] at this
  rwa [show Lib.itoa n = decDigits n.natAbs by rw [show n = ((n.natAbs : Nat) : Int) by omega, Lib.itoa_nonneg]; simp]
theorem IsJ.isI {l : List Int} {v : Value} {w : World} (h : IsJ l v w) : IsI l v w := by
 obtain ⟨g, c, cs, h1, h2, h3, h4, h5⟩ := h
 refine ⟨_, c, h1, h2, h3, fun k hk => ⟨g, 0, rfl, h4.lt, fun j u hu => ?_⟩⟩
 have hj : j = 0 := by
  have := (List.getElem?_eq_some_iff.1 hu).1
  simp [encZ] at this
  exact this
 subst hj
 have e : u = .int .i64 l[k] := by simpa [encZ] using hu.symm
 rw [e, h4.c, ← h5 k hk]
 congr 1
 omega
set_option maxRecDepth 100000 in
set_option maxHeartbeats 1000000 in
theorem short_any (l : List Int) (v : Value) (w : World) (hv : IsI l v w) : Calls Tryz.prog 52 #[v] w fun e w' => e = .returned (.bool (fitB l)) ∧ w' = w := by
 obtain ⟨a, c, rfl, h2, h3, h4⟩ := hv
 obtain ⟨n, hn⟩ : ∃ n, l.length = n := ⟨_, rfl⟩
 rw [hn] at h2 ⊢
 obtain ⟨B, hB⟩ : ∃ b, fitB l = b := ⟨_, rfl⟩
 rw [hB]
 replace hB := Lib.hid hB
 replace hn := Lib.hid hn
 replace h4 := Lib.hid h4
 go_enter Tryz.func52, Tryz.ntmps52
 go_wp2_with fail
 go_loopg [3] n (fun g i wr => ∃ k : Nat, k ≤ n ∧ i = .int .i64 (k : Int) ∧ Hid (g = n - k ∧ fitB (l.take k) = true) ∧ wr = w)
 case atStart => exact ⟨0, Nat.zero_le _, rfl, Lib.hid ⟨rfl, rfl⟩, rfl⟩
 case round =>
  obtain ⟨k, hk, rfl, hr, rfl⟩ := hrel
  by_cases hlt : k < n
  ·have hkl : k < l.length := by rw [hn.out]; exact hlt
   obtain ⟨b, off, rfl, hbl, hc⟩ := h4.out k hkl
   have hc0 := hc 0 _ rfl
   rw [Nat.mul_one, Nat.add_zero] at hc0
   obtain ⟨x, hx⟩ : ∃ x, l[k] = x := ⟨_, rfl⟩
   rw [hx] at hc0
   have hsuc : fitB (l.take (k + 1)) = (fitB (l.take k) && fitB [x]) := by
    rw [List.take_succ_eq_append_getElem hkl, hx]
    unfold fitB
    rw [List.all_append]
   have hmem : x ∈ l := hx ▸ List.getElem_mem hkl
   replace hx := Lib.hid hx
   clear hc hbl
   by_cases x1 : x < -999999999999999
   ·have f1 : decide (x < -999999999999999) = true := decide_eq_true x1
    have hE : Hid (B = false) := Lib.hid (by
     rw [← hB.out]
     cases h : fitB l
     ·rfl
     ·have := fit_all h x hmem
      omega)
    clear x1 hsuc hmem
    go_wp2_with fail
    go_ret
    exact ⟨by rw [hE.out]; rfl, rfl⟩
   ·have f1 : decide (x < -999999999999999) = false := decide_eq_false x1
    by_cases x2 : 999999999999999 < x
    ·have f2 : decide (999999999999999 < x) = true := decide_eq_true x2
     have hE : Hid (B = false) := Lib.hid (by
      rw [← hB.out]
      cases h : fitB l
      ·rfl
      ·have := fit_all h x hmem
       omega)
     clear x1 x2 hsuc hmem
     go_wp2_with fail
     go_ret
     exact ⟨by rw [hE.out]; rfl, rfl⟩
    ·have f2 : decide (999999999999999 < x) = false := decide_eq_false x2
     have hnx : Hid (fitB (l.take (k + 1)) = true) := Lib.hid (by
      rw [hsuc, hr.out.2]
      unfold fitB
      simp
      omega)
     clear x1 x2 hsuc hmem
     go_wp2_with fail
     go_roundg (n - (k + 1))
     case measure => have := hr.out.1; omega
     case rel => exact ⟨k + 1, by omega, by go_num, Lib.hid ⟨rfl, hnx.out⟩, rfl⟩
  ·have hE : Hid (B = true) := Lib.hid (by
    have := hr.out.2
    rw [List.take_of_length_le (by have := hn.out; omega)] at this
    rw [← hB.out, this])
   go_wp2_with fail
   go_ret
   exact ⟨by rw [hE.out]; rfl, rfl⟩
set_option maxRecDepth 100000 in
set_option maxHeartbeats 1000000 in
theorem cornersJ (a b c d f g : Int) (w : World) : Calls Tryz.prog 56 #[.agg #[.int .i64 a, .int .i64 b, .int .i64 c, .int .i64 d, .int .i64 f, .int .i64 g]] w fun e w' => (∃ v, e = .returned v ∧ IsJ [a, b, c, d, f, g] v w') ∧ Below w.heap.size w w' := by
 go_enter Tryz.func56, Tryz.ntmps56
 go_wp2_with fail
 generalize hWW : World.alloc (World.alloc w _) _ = WW
 have kz : At WW (w.heap.size + 1) 3 #[.int .i64 a, .int .i64 b, .int .i64 c, .int .i64 d, .int .i64 f, .int .i64 g] := by rw [← hWW]; repeat (first | (with_reducible apply At.new'; (focus (simp; done))) | with_reducible apply At.al | with_reducible apply At.drw | with_reducible apply At.dr)
 have HB : Below w.heap.size w WW := by rw [← hWW]; repeat (first | with_reducible assumption | with_reducible exact Below.refl _ _ | with_reducible refine below_al ?_ _ | with_reducible refine below_drew ?_ | with_reducible refine below_drewN ?_ _ | with_reducible refine below_set ?_ (by dsimp only; omega) _)
 clear hWW
 go_ret
 exact ⟨⟨_, rfl, isJ_new (l := [a, b, c, d, f, g]) kz (by simp)⟩, HB⟩
set_option maxRecDepth 100000 in
set_option maxHeartbeats 1000000 in
theorem rruleJ (a b c d f g h i j : Int) (w : World) : Calls Tryz.prog 54 #[.agg #[.int .i64 a, .int .i64 b, .int .i64 c, .int .i64 d, .int .i64 f, .int .i64 g, .int .i64 h, .int .i64 i, .int .i64 j]] w fun e w' => (∃ v, e = .returned v ∧ IsJ [a, b, c, d, f, g, h, i, j] v w') ∧ Below w.heap.size w w' := by
 go_enter Tryz.func54, Tryz.ntmps54
 go_wp2_with fail
 generalize hWW : World.alloc (World.alloc w _) _ = WW
 have kz : At WW (w.heap.size + 1) 3 #[.int .i64 a, .int .i64 b, .int .i64 c, .int .i64 d, .int .i64 f, .int .i64 g, .int .i64 h, .int .i64 i, .int .i64 j] := by rw [← hWW]; repeat (first | (with_reducible apply At.new'; (focus (simp; done))) | with_reducible apply At.al | with_reducible apply At.drw | with_reducible apply At.dr)
 have HB : Below w.heap.size w WW := by rw [← hWW]; repeat (first | with_reducible assumption | with_reducible exact Below.refl _ _ | with_reducible refine below_al ?_ _ | with_reducible refine below_drew ?_ | with_reducible refine below_drewN ?_ _ | with_reducible refine below_set ?_ (by dsimp only; omega) _)
 clear hWW
 go_ret
 exact ⟨⟨_, rfl, isJ_new (l := [a, b, c, d, f, g, h, i, j]) kz (by simp)⟩, HB⟩
set_option maxRecDepth 100000 in
set_option maxHeartbeats 1000000 in
theorem rrunJ (a b c d f g h i j : Int) (s : ByteArray) (w : World) : Calls Tryz.prog 55 #[.agg #[.string s, .int .i64 a, .int .i64 b, .int .i64 c, .int .i64 d, .int .i64 f, .int .i64 g, .int .i64 h, .int .i64 i, .int .i64 j]] w fun e w' => (∃ v, e = .returned v ∧ IsJ [a, b, c, d, f, g, h, i, j] v w') ∧ Below w.heap.size w w' := by
 go_enter Tryz.func55, Tryz.ntmps55
 go_wp2_with fail
 generalize hWW : World.alloc (World.alloc w _) _ = WW
 have kz : At WW (w.heap.size + 1) 3 #[.int .i64 a, .int .i64 b, .int .i64 c, .int .i64 d, .int .i64 f, .int .i64 g, .int .i64 h, .int .i64 i, .int .i64 j] := by rw [← hWW]; repeat (first | (with_reducible apply At.new'; (focus (simp; done))) | with_reducible apply At.al | with_reducible apply At.drw | with_reducible apply At.dr)
 have HB : Below w.heap.size w WW := by rw [← hWW]; repeat (first | with_reducible assumption | with_reducible exact Below.refl _ _ | with_reducible refine below_al ?_ _ | with_reducible refine below_drew ?_ | with_reducible refine below_drewN ?_ _ | with_reducible refine below_set ?_ (by dsimp only; omega) _)
 clear hWW
 go_ret
 exact ⟨⟨_, rfl, isJ_new (l := [a, b, c, d, f, g, h, i, j]) kz (by simp)⟩, HB⟩
set_option maxRecDepth 100000 in
set_option maxHeartbeats 1000000 in
theorem rline_any (ws : ByteArray) (ns : List Int) (v : Value) (w : World) (hv : IsI ns v w) (hws : ws.size ≤ 1000000) (hns : ns.length ≤ 1000) (hr : ∀ n ∈ ns, -9223372036854775807 ≤ n ∧ n ≤ 9223372036854775807) : Calls Tryz.prog 57 #[.string ws, v] w fun e w' => e = .returned (.string ⟨(lnB (by_ ws) ns).toArray⟩) ∧ w' = w := by
 obtain ⟨a, c, rfl, h2, h3, h4⟩ := hv
 obtain ⟨n, hn⟩ : ∃ n, ns.length = n := ⟨_, rfl⟩
 rw [hn] at h2 hns ⊢
 have hLb : Hid (∀ k, k ≤ n → (by_ ws ++ lnN (ns.take k)).length ≤ 2000000) := Lib.hid fun k hk => by
  have h1 := lnN_len (ns.take k) fun m hm => by have := hr m (List.mem_of_mem_take hm); omega
  have h2 : (by_ ws).length = ws.size := rfl
  have h3 : (ns.take k).length ≤ k := List.length_take_le _ _
  rw [List.length_append]
  omega
 have hfin : Hid (lnB (by_ ws) ns = by_ ws ++ lnN ns ++ [10]) := Lib.hid rfl
 replace hn := Lib.hid hn
 replace h4 := Lib.hid h4
 replace hr := Lib.hid hr
 go_enter Tryz.func57, Tryz.ntmps57
 go_wp2_with fail
 go_loopg [0, 5] n (fun g s i wr => ∃ (k : Nat) (S : ByteArray), k ≤ n ∧ s = .string S ∧ i = .int .i64 (k : Int) ∧ Hid (g = n - k ∧ by_ S = by_ ws ++ lnN (ns.take k)) ∧ wr = w)
 case atStart => exact ⟨0, ws, Nat.zero_le _, rfl, rfl, Lib.hid ⟨rfl, by rw [List.take_zero]; simp [lnN]⟩, rfl⟩
 case round =>
  obtain ⟨k, S, hk, rfl, rfl, hg, rfl⟩ := hrel
  have hSz : S.size ≤ 2000000 := by
   have := hLb.out k hk
   rw [← hg.out.2] at this
   exact this
  have h10 : (⟨#[10]⟩ : ByteArray).size = 1 := rfl
  have h32 : (⟨#[32]⟩ : ByteArray).size = 1 := rfl
  by_cases hlt : k < n
  ·have hkl : k < ns.length := by rw [hn.out]; exact hlt
   obtain ⟨b, off, rfl, hbl, hc⟩ := h4.out k hkl
   have hc0 := hc 0 _ rfl
   rw [Nat.mul_one, Nat.add_zero] at hc0
   have hrk := hr.out _ (List.getElem_mem hkl)
   have hsuc : lnN (ns.take (k + 1)) = lnN (ns.take k) ++ (32 :: Lib.itoa ns[k]) := by
    unfold lnN
    rw [List.take_succ_eq_append_getElem hkl, List.flatMap_append, List.flatMap_cons, List.flatMap_nil, List.append_nil]
   obtain ⟨x, hx⟩ : ∃ x, ns[k] = x := ⟨_, rfl⟩
   rw [hx] at hc0 hrk hsuc
   have HD := Lib.hid (dec23 x hrk wr)
   have hil : (⟨(Lib.itoa x).toArray⟩ : ByteArray).size ≤ 21 := by rw [mk_size]; exact itoa_len (by omega)
   have hbx : by_ (⟨(Lib.itoa x).toArray⟩ : ByteArray) = Lib.itoa x := mk_by _
   generalize (⟨(Lib.itoa x).toArray⟩ : ByteArray) = I at *
   have hnx : Hid (by_ (S ++ ⟨#[32]⟩ ++ I : ByteArray) = by_ ws ++ lnN (ns.take (k + 1))) := Lib.hid (by
    rw [by_append, by_append, hg.out.2, hsuc, hbx, List.append_assoc, List.append_assoc]
    rfl)
   have hs1 : (S ++ ⟨#[32]⟩ : ByteArray).size ≤ 2000001 := by rw [ByteArray.size_append]; omega
   have hs2 : (S ++ ⟨#[32]⟩ ++ I : ByteArray).size ≤ 2000100 := by rw [ByteArray.size_append]; omega
   replace hx := Lib.hid hx
   replace hbx := Lib.hid hbx
   replace hsuc := Lib.hid hsuc
   clear hc hbl hrk
   go_wp2_with fail
   refine HD.out.mono ?_
   rintro e w1 ⟨rfl, rfl⟩
   go_wp2_with fail
   go_roundg (n - (k + 1))
   case measure => have := hg.out.1; omega
   case rel => exact ⟨k + 1, S ++ ⟨#[32]⟩ ++ I, by omega, rfl, by go_num, Lib.hid ⟨rfl, hnx.out⟩, rfl⟩
  ·have hE : Hid ((⟨(lnB (by_ ws) ns).toArray⟩ : ByteArray) = S ++ ⟨#[10]⟩) := Lib.hid (by_inj (by
    have := hg.out.2
    rw [List.take_of_length_le (by have := hn.out; omega)] at this
    rw [mk_by, hfin.out, by_append, this]))
   go_wp2_with fail
   go_ret
   exact ⟨by rw [hE.out]; rfl, rfl⟩
end Go.Proofs.YtccakklnbhcbdaaGreatDoor
set_option linter.unusedVariables false
set_option linter.unusedSimpArgs false
namespace Go.Proofs.YtccakklnbhcbdaaGreatDoor
open Go.ChangeShapes Go.WideShapes Go.ChangeAt Go.RowKit
set_option maxRecDepth 100000 in
set_option maxHeartbeats 1000000 in
theorem rboxes_any (l : List (List Int)) (v : Value) (w : World) (hl : ∀ n ∈ l, n.length = 6) (h : Sl w 6 (encK 6) v l) : Calls Tryz.prog 53 #[v] w fun e w' => e = .returned (.bool (decide (l.length ≤ 20) && l.all fitB)) ∧ Below w.heap.size w w' := by
 obtain ⟨a, c, rfl, h2, h3, h4⟩ := h
 obtain ⟨n, hn⟩ : ∃ n, l.length = n := ⟨_, rfl⟩
 rw [hn] at h2 ⊢
 obtain ⟨B, hB⟩ : ∃ b, l.all fitB = b := ⟨_, rfl⟩
 rw [hB]
 replace hB := Lib.hid hB
 replace hn := Lib.hid hn
 replace h4 := Lib.hid h4
 replace hl := Lib.hid hl
 by_cases hbig : n ≤ 20
 rotate_left
 ·have f1 : decide ((20 : Int) < (n : Int)) = true := decide_eq_true (by omega)
  have hE : Hid (decide (n ≤ 20) = false) := Lib.hid (decide_eq_false hbig)
  go_enter Tryz.func53, Tryz.ntmps53
  go_wp2_with fail
  go_ret
  exact ⟨by rw [hE.out]; rfl, Below.refl _ _⟩
 ·have f1 : decide ((20 : Int) < (n : Int)) = false := decide_eq_false (by omega)
  have hE : Hid (decide (n ≤ 20) = true) := Lib.hid (decide_eq_true hbig)
  go_enter Tryz.func53, Tryz.ntmps53
  go_wp2_with fail
  go_loopg [3] n (fun g i wr => ∃ k : Nat, k ≤ n ∧ i = .int .i64 (k : Int) ∧ Hid (g = n - k ∧ (l.take k).all fitB = true) ∧ Hid (Below w.heap.size w wr))
  case atStart => exact ⟨0, Nat.zero_le _, rfl, Lib.hid ⟨rfl, rfl⟩, Lib.hid (Below.refl _ _)⟩
  case round =>
   obtain ⟨k, hk, rfl, hr, hW⟩ := hrel
   by_cases hlt : k < n
   ·have hkl : k < l.length := by rw [hn.out]; exact hlt
    obtain ⟨b, off, rfl, hbl, hc⟩ := h4.out k hkl
    obtain ⟨e0, e1, e2, e3, e4, e5, hx⟩ := six (hl.out _ (List.getElem_mem hkl))
    have hmem : [e0, e1, e2, e3, e4, e5] ∈ l := hx ▸ List.getElem_mem hkl
    have hsuc : (l.take (k + 1)).all fitB = ((l.take k).all fitB && fitB [e0, e1, e2, e3, e4, e5]) := by
     rw [List.take_succ_eq_append_getElem hkl, hx, List.all_append, List.all_cons, List.all_nil, Bool.and_true]
    have q0 : wr.cell? ⟨b, off + k * 6, none⟩ = some (.int .i64 e0) := (hW.out.cell hbl).trans (hc 0 _ (by rw [hx]; rfl))
    have q1 : wr.cell? ⟨b, off + k * 6 + 1, none⟩ = some (.int .i64 e1) := (hW.out.cell hbl).trans (hc 1 _ (by rw [hx]; rfl))
    have q2 : wr.cell? ⟨b, off + k * 6 + 2, none⟩ = some (.int .i64 e2) := (hW.out.cell hbl).trans (hc 2 _ (by rw [hx]; rfl))
    have q3 : wr.cell? ⟨b, off + k * 6 + 3, none⟩ = some (.int .i64 e3) := (hW.out.cell hbl).trans (hc 3 _ (by rw [hx]; rfl))
    have q4 : wr.cell? ⟨b, off + k * 6 + 4, none⟩ = some (.int .i64 e4) := (hW.out.cell hbl).trans (hc 4 _ (by rw [hx]; rfl))
    have q5 : wr.cell? ⟨b, off + k * 6 + 5, none⟩ = some (.int .i64 e5) := (hW.out.cell hbl).trans (hc 5 _ (by rw [hx]; rfl))
    have hfalse : Hid (fitB [e0, e1, e2, e3, e4, e5] = false → B = false) := Lib.hid fun h => by
     rw [← hB.out]
     cases h2 : l.all fitB
     ·rfl
     ·rw [List.all_eq_true.1 h2 _ hmem] at h
      cases h
    obtain ⟨F, hF⟩ : ∃ F, fitB [e0, e1, e2, e3, e4, e5] = F := ⟨_, rfl⟩
    have HS : Hid (∀ v w, IsI [e0, e1, e2, e3, e4, e5] v w → Calls Tryz.prog 52 #[v] w fun e w' => e = .returned (.bool F) ∧ w' = w) := Lib.hid fun v w h => by
     rw [← hF]; exact short_any _ v w h
    rw [hF] at hsuc hfalse
    replace hF := Lib.hid hF
    replace hsuc := Lib.hid hsuc
    clear hc hx hmem hbl
    go_wp2_with fail
    refine (cornersJ e0 e1 e2 e3 e4 e5 _).mono ?_
    rintro e w2 ⟨⟨v, rfl, hv⟩, hb2⟩
    have hW2 := Lib.hid (below_then hW.out hb2)
    clear hb2 q0 q1 q2 q3 q4 q5
    go_wp2_with fail
    refine (HS.out v w2 hv.isI).mono ?_
    rintro e w3 ⟨rfl, rfl⟩
    cases F
    ·have hE2 : Hid (B = false) := Lib.hid (hfalse.out rfl)
     go_wp2_with fail
     go_ret
     exact ⟨by rw [hE2.out, hE.out]; rfl, hW2.out⟩
    ·go_wp2_with fail
     go_roundg (n - (k + 1))
     case measure => have := hr.out.1; omega
     case rel => exact ⟨k + 1, by omega, by go_num, Lib.hid ⟨rfl, by rw [hsuc.out, hr.out.2]; rfl⟩, hW2⟩
   ·have hE2 : Hid (B = true) := Lib.hid (by
     have := hr.out.2
     rw [List.take_of_length_le (by have := hn.out; omega)] at this
     rw [← hB.out]
     exact this)
    go_wp2_with fail
    go_ret
    exact ⟨by rw [hE2.out, hE.out]; rfl, hW.out⟩
end Go.Proofs.YtccakklnbhcbdaaGreatDoor
