/- ratio.Text and the reference's Text by their values. -/
import Derived.Test.YtpijmjffobkalaaDoorRaTx
import Derived.Test.YtpijmjffobkalaaDoorRaRef3
import Derived.Lib.ItoaLen
import Derived.Lib.ItoaMem
import Derived.Deep.LoopGhost
import Derived.Laws.BytesString
import Derived.Laws.IdiomStrings
set_option linter.unusedVariables false
namespace Go.Proofs.YtpijmjffobkalaaDoor
open Go.ChangeShapes Go.WideShapes Go.ChangeAt Go.RowKit

abbrev by_ (s : ByteArray) : List UInt8 := s.data.toList
theorem by_len (s : ByteArray) : (by_ s).length = s.size := rfl
theorem by_mk (s : ByteArray) : (⟨(by_ s).toArray⟩ : ByteArray) = s := Lib.mk_data s
theorem by_append (a b : ByteArray) : by_ (a ++ b) = by_ a ++ by_ b := by
  show (a ++ b).data.toList = a.data.toList ++ b.data.toList
  simp
theorem by_inj {a b : ByteArray} (h : by_ a = by_ b) : a = b := by rw [← by_mk a, ← by_mk b, h]
theorem mk_by (l : List UInt8) : by_ (⟨l.toArray⟩ : ByteArray) = l := by simp
theorem by_dot (c : UInt8) : by_ (⟨#[c]⟩ : ByteArray) = [c] := rfl
theorem mk_size (l : List UInt8) : (⟨l.toArray⟩ : ByteArray).size = l.length := by simp [ByteArray.size]
theorem psize (b : UInt8) (out : ByteArray) : ((⟨#[b]⟩ : ByteArray) ++ out).size = out.size + 1 := by
  rw [ByteArray.size_append, Nat.add_comm]
  rfl
theorem dec_len (n : Nat) (h : n ≤ 9223372036854775807) : (Lib.decDigits n).length ≤ 21 := by
  have := Lib.itoa_length_le (n : Int) (by omega) (by omega)
  rwa [Lib.itoa_nonneg] at this
theorem dec_step {n : Nat} (h : 10 ≤ n) : Lib.decDigits n = Lib.decDigits (n / 10) ++ [UInt8.ofNat (48 + n % 10)] := by
  rw [Lib.decDigits, dif_neg (by omega)]
/-- The text of a fraction. -/
def txtL (n d : Int) : List UInt8 := Lib.itoa n ++ (if d = 1 then [] else 47 :: Lib.itoa d)
theorem wrap_in {n : Int} (h : -9223372036854775808 ≤ n ∧ n ≤ 9223372036854775807) : IntKind.i64.wrap n = n := IntWalk.i64_in _ (by omega)

set_option maxRecDepth 100000 in
theorem text_one (n : Int) (sA : ByteArray) (HA : Hid (∀ w, Tab w → Calls Tryd.prog 72 #[.int .i64 n] w fun e w' => e = .returned (.string sA) ∧ Below w.heap.size w w')) (w : World) (ht : Hid (Tab w)) :
    Calls Tryd.prog 60 #[.agg #[.int .i64 n, .int .i64 1]] w fun e w' => e = .returned (.string sA) ∧ Below w.heap.size w w' := by
  go_enter Tryd.func60, Tryd.ntmps60
  go_wp2_with fail
  refine (HA.out _ (ht.out.bel (below_al (Below.refl _ _) _))).mono ?_
  rintro e v1 ⟨rfl, hb1⟩
  have HB : Below w.heap.size w v1 := below_then (below_al (Below.refl _ _) _) hb1
  go_wp2_with fail
  go_ret
  exact ⟨rfl, HB⟩
theorem text_any (n d : Int) (hn : -9223372036854775808 ≤ n ∧ n ≤ 9223372036854775807) (hd : -9223372036854775808 ≤ d ∧ d ≤ 9223372036854775807) (w : World) (ht : Tab w) :
    Calls Tryd.prog 60 #[.agg #[.int .i64 n, .int .i64 d]] w fun e w' => e = .returned (.string ⟨(txtL n d).toArray⟩) ∧ Below w.heap.size w w' := by
  have HA := Lib.hid (fun w ht => itoa_tab n hn w ht)
  have HD := Lib.hid (fun w ht => itoa_tab d hd w ht)
  by_cases h : d = 1
  · subst h
    have := text_one n _ HA w (Lib.hid ht)
    rwa [show txtL n 1 = Lib.itoa n from by simp [txtL]]
  · have la := Lib.itoa_length_le n hn.1 hn.2
    have ld := Lib.itoa_length_le d hd.1 hd.2
    have := text_core n d _ _ (by simpa using h) (by rw [mk_size]; omega) (by rw [mk_size]; omega) HA HD w (Lib.hid ht)
    rwa [show ((⟨(Lib.itoa n).toArray⟩ : ByteArray) ++ ⟨#[47]⟩ ++ ⟨(Lib.itoa d).toArray⟩ : ByteArray) = ⟨(txtL n d).toArray⟩ from by_inj (by rw [by_append, by_append, mk_by, mk_by, mk_by, mk_by]; simp [txtL, h])] at this
theorem Text_bad (n d : Int) (hf : fracB n d = false) (w : World) :
    Calls Tryd.prog 34 #[.agg #[.int .i64 n, .int .i64 d]] w fun e w' => e = .returned (.tuple #[.string ⟨#[]⟩, .int .i64 1]) ∧ Below w.heap.size w w' := by
  have HV := Lib.hid (fun w => by have := fvalid_any n d w; rw [hf] at this; exact this)
  clear hf
  go_enter Tryd.func34, Tryd.ntmps34
  go_wp2_with fail
  refine (HV.out _).mono ?_
  rintro e v1 ⟨rfl, hb1⟩
  have HB : Below w.heap.size w v1 := below_then (by repeat (first | with_reducible assumption | with_reducible exact Below.refl _ _ | with_reducible refine below_al ?_ _ | with_reducible refine below_drew ?_ | with_reducible refine below_drewN ?_ _ | with_reducible refine below_set ?_ (by dsimp only; omega) _)) hb1
  go_wp2_with fail
  go_ret2
  exact ⟨rfl, HB⟩
theorem Text_any (n d : Int) (hf : fracB n d = true) (w : World) (ht : Tab w) :
    Calls Tryd.prog 34 #[.agg #[.int .i64 n, .int .i64 d]] w fun e w' => e = .returned (.tuple #[.string ⟨(txtL n d).toArray⟩, .int .i64 0]) ∧ Below w.heap.size w w' := by
  have g := fracB_iff.1 hf
  exact Text_core n d _ (Lib.hid (fun w => by have := fvalid_any n d w; rw [hf] at this; exact this)) (Lib.hid (fun w ht => text_any n d (by omega) (by omega) w ht)) w (Lib.hid ht)

set_option maxRecDepth 100000 in
set_option maxHeartbeats 1000000 in
theorem refdecimal_any (n : Nat) (hn : n ≤ 9223372036854775807) (w : World) :
    Calls Tryd.prog 61 #[.int .u64 (n : Int)] w fun e w' => e = .returned (.string ⟨(Lib.decDigits n).toArray⟩) ∧ Below w.heap.size w w' := by
  obtain ⟨R, hR⟩ : ∃ R, Lib.decDigits n = R := ⟨_, rfl⟩
  have hl := dec_len n hn
  rw [hR] at hl ⊢
  replace hR := Lib.hid hR
  go_enter Tryd.func61, Tryd.ntmps61
  go_wp2_with fail
  go_loopg [0, 3] n (fun g v0 v3 wr => ∃ (k : Nat) (out : ByteArray), v0 = .int .u64 (k : Int) ∧ v3 = .string out ∧ k ≤ n ∧ Hid (g = k ∧ Lib.decDigits k ++ by_ out = R) ∧ Below w.heap.size w wr)
  case atStart => exact ⟨n, ByteArray.empty, rfl, rfl, Nat.le_refl _, Lib.hid ⟨rfl, by rw [hR.out]; exact List.append_nil _⟩, Below.refl _ _⟩
  case round =>
    obtain ⟨k, out, rfl, rfl, hk, hr, HB⟩ := hrel
    have bo : out.size ≤ 50 := by
      have e := congrArg List.length hr.out.2
      rw [List.length_append, by_len] at e
      omega
    by_cases c1 : 9 < k
    · obtain ⟨q, hq⟩ : ∃ q, k / 10 = q := ⟨_, rfl⟩
      obtain ⟨r, hr'⟩ : ∃ r, k % 10 = r := ⟨_, rfl⟩
      have e1 : (k : Int) % 10 = (r : Int) := by omega
      have e2 : (k : Int) / 10 = (q : Int) := by omega
      have e3 : IntKind.u64.wrap (q : Int) = (q : Int) := by rw [IntKind.wrap_u64]; omega
      have e4 : IntKind.u64.wrap (r : Int) = (r : Int) := by rw [IntKind.wrap_u64]; omega
      have e5 : IntKind.u64.wrap (48 + (r : Int)) = 48 + (r : Int) := by rw [IntKind.wrap_u64]; omega
      have hr9 : r < 10 := by omega
      obtain ⟨b, hb⟩ : ∃ b : UInt8, b = UInt8.ofNat (48 + r) := ⟨_, rfl⟩
      have hbn : (b.toNat : Int) = 48 + (r : Int) := by rw [hb]; simp; omega
      have hconv : (convert 95 9 (.slice (some ⟨wr.heap.size, 0, none⟩) 1 1)).run Tryd.prog (wr.alloc (.cells #[.int .u8 (48 + (r : Int))] 5)) = .ok (.string ⟨#[b]⟩) (wr.alloc (.cells #[.int .u8 (48 + (r : Int))] 5)) :=
        run_convert_bytes_back _ _ _ 5 ⟨wr.heap.size, 0, none⟩ 1 [b] Tryd.underlying95 Tryd.underlying5 Tryd.underlying9 (fun j hj => by
          have : j = 0 := by simpa using hj
          subst this
          simp [Addr.add, hbn])
      have hS : Hid (Lib.decDigits q ++ by_ (⟨#[b]⟩ ++ out) = R) := Lib.hid (by
        rw [← hr.out.2, dec_step (n := k) (by omega), hq, hr', by_append, by_dot, ← hb, List.append_assoc])
      have hqk : q < k := by omega
      replace hq := Lib.hid hq
      replace hb := Lib.hid hb
      replace hbn := Lib.hid hbn
      replace hr' := Lib.hid hr'
      go_wp2_with fail
      go_roundg q
      case measure => have := hr.out.1; omega
      case rel => exact ⟨q, ⟨#[b]⟩ ++ out, rfl, rfl, by omega, Lib.hid ⟨rfl, hS.out⟩, (by repeat (first | with_reducible assumption | with_reducible exact Below.refl _ _ | with_reducible refine below_al ?_ _ | with_reducible refine below_drew ?_ | with_reducible refine below_drewN ?_ _ | with_reducible refine below_set ?_ (by dsimp only; omega) _))⟩
    · have hk9 : k < 10 := by omega
      have e5 : IntKind.u64.wrap (48 + (k : Int)) = 48 + (k : Int) := by rw [IntKind.wrap_u64]; omega
      obtain ⟨b, hb⟩ : ∃ b : UInt8, b = UInt8.ofNat (48 + k) := ⟨_, rfl⟩
      have hbn : (b.toNat : Int) = 48 + (k : Int) := by rw [hb]; simp; omega
      have hconv : (convert 95 9 (.slice (some ⟨wr.heap.size, 0, none⟩) 1 1)).run Tryd.prog (wr.alloc (.cells #[.int .u8 (48 + (k : Int))] 5)) = .ok (.string ⟨#[b]⟩) (wr.alloc (.cells #[.int .u8 (48 + (k : Int))] 5)) :=
        run_convert_bytes_back _ _ _ 5 ⟨wr.heap.size, 0, none⟩ 1 [b] Tryd.underlying95 Tryd.underlying5 Tryd.underlying9 (fun j hj => by
          have : j = 0 := by simpa using hj
          subst this
          simp [Addr.add, hbn])
      have hE : Hid ((⟨#[b]⟩ : ByteArray) ++ out = ⟨R.toArray⟩) := Lib.hid (by_inj (by
        rw [by_append, by_dot, mk_by, ← hr.out.2, Lib.decDigits_one hk9, hb]))
      replace hb := Lib.hid hb
      replace hbn := Lib.hid hbn
      go_wp2_with fail
      go_ret
      exact ⟨by rw [← hE.out]; rfl, (by repeat (first | with_reducible assumption | with_reducible exact Below.refl _ _ | with_reducible refine below_al ?_ _ | with_reducible refine below_drew ?_ | with_reducible refine below_drewN ?_ _ | with_reducible refine below_set ?_ (by dsimp only; omega) _))⟩

set_option maxRecDepth 100000 in
set_option maxHeartbeats 1000000 in
theorem reftext_00 (n d x y : Int) (sx sy : ByteArray) (b1 : sx.size ≤ 50) (b2 : sy.size ≤ 50) (hn : ¬ n < 0)
    (HS1 : Hid (∀ w, Calls Tryd.prog 49 #[.int .i64 n] w fun e w' => e = .returned (.int .u64 x) ∧ Below w.heap.size w w')) (HD1 : Hid (∀ w, Calls Tryd.prog 61 #[.int .u64 x] w fun e w' => e = .returned (.string sx) ∧ Below w.heap.size w w'))
    (HS2 : Hid (∀ w, Calls Tryd.prog 49 #[.int .i64 d] w fun e w' => e = .returned (.int .u64 y) ∧ Below w.heap.size w w')) (HD2 : Hid (∀ w, Calls Tryd.prog 61 #[.int .u64 y] w fun e w' => e = .returned (.string sy) ∧ Below w.heap.size w w')) (hd : ¬ d = 1) (hd2 : ((d : Int) == 1) = false) (hd3 : ((d : Int) != 1) = true) (w : World) :
    Calls Tryd.prog 35 #[.agg #[.int .i64 n, .int .i64 d]] w fun e w' => e = .returned (.string (sx ++ ⟨#[47]⟩ ++ sy)) ∧ Below w.heap.size w w' := by
  go_enter Tryd.func35, Tryd.ntmps35
  go_wp2_with fail
  refine (HS1.out _).mono ?_
  rintro e v1 ⟨rfl, hb1⟩
  have k_a : At v1 (w.heap.size) 23 #[.int .i64 n, .int .i64 d] := At.bel (by (repeat (first | (with_reducible apply At.new'; (focus (simp; done))) | with_reducible apply At.al | with_reducible apply At.drw | with_reducible apply At.dr))) hb1
  have HB : Below w.heap.size w v1 := below_then (by repeat (first | with_reducible assumption | with_reducible exact Below.refl _ _ | with_reducible refine below_al ?_ _ | with_reducible refine below_drew ?_ | with_reducible refine below_drewN ?_ _ | with_reducible refine below_set ?_ (by dsimp only; omega) _)) hb1
  clear hb1
  have Lk_a := k_a.lt
  obtain ⟨k_a0, k_a1, k_a2, k_a3⟩ := k_a.two
  go_wp2_with fail
  refine (HD1.out _).mono ?_
  rintro e v2 ⟨rfl, hb2⟩
  clear k_a0 k_a1 k_a2 k_a3 Lk_a
  replace k_a : At v2 (w.heap.size) 23 #[.int .i64 n, .int .i64 d] := At.bel (by repeat (first | with_reducible assumption | with_reducible apply At.put0 | with_reducible apply At.put1 | with_reducible refine At.far ?_ (by dsimp only; omega) _ | with_reducible apply At.al | with_reducible apply At.drw | with_reducible apply At.dr)) hb2
  replace HB : Below w.heap.size w v2 := below_then (by repeat (first | with_reducible assumption | with_reducible exact Below.refl _ _ | with_reducible refine below_al ?_ _ | with_reducible refine below_drew ?_ | with_reducible refine below_drewN ?_ _ | with_reducible refine below_set ?_ (by dsimp only; omega) _)) hb2
  clear hb2
  have Lk_a := k_a.lt
  obtain ⟨k_a0, k_a1, k_a2, k_a3⟩ := k_a.two
  go_wp2_with fail
  refine (HS2.out _).mono ?_
  rintro e v3 ⟨rfl, hb3⟩
  clear k_a0 k_a1 k_a2 k_a3 Lk_a
  replace k_a : At v3 (w.heap.size) 23 #[.int .i64 n, .int .i64 d] := At.bel (by repeat (first | with_reducible assumption | with_reducible apply At.put0 | with_reducible apply At.put1 | with_reducible refine At.far ?_ (by dsimp only; omega) _ | with_reducible apply At.al | with_reducible apply At.drw | with_reducible apply At.dr)) hb3
  replace HB : Below w.heap.size w v3 := below_then (by repeat (first | with_reducible assumption | with_reducible exact Below.refl _ _ | with_reducible refine below_al ?_ _ | with_reducible refine below_drew ?_ | with_reducible refine below_drewN ?_ _ | with_reducible refine below_set ?_ (by dsimp only; omega) _)) hb3
  clear hb3
  have Lk_a := k_a.lt
  obtain ⟨k_a0, k_a1, k_a2, k_a3⟩ := k_a.two
  go_wp2_with fail
  refine (HD2.out _).mono ?_
  rintro e v4 ⟨rfl, hb4⟩
  clear k_a0 k_a1 k_a2 k_a3 Lk_a
  replace k_a : At v4 (w.heap.size) 23 #[.int .i64 n, .int .i64 d] := At.bel (by repeat (first | with_reducible assumption | with_reducible apply At.put0 | with_reducible apply At.put1 | with_reducible refine At.far ?_ (by dsimp only; omega) _ | with_reducible apply At.al | with_reducible apply At.drw | with_reducible apply At.dr)) hb4
  replace HB : Below w.heap.size w v4 := below_then (by repeat (first | with_reducible assumption | with_reducible exact Below.refl _ _ | with_reducible refine below_al ?_ _ | with_reducible refine below_drew ?_ | with_reducible refine below_drewN ?_ _ | with_reducible refine below_set ?_ (by dsimp only; omega) _)) hb4
  clear hb4
  have Lk_a := k_a.lt
  obtain ⟨k_a0, k_a1, k_a2, k_a3⟩ := k_a.two
  go_wp2_with fail
  go_ret
  exact ⟨rfl, (by repeat (first | with_reducible assumption | with_reducible exact Below.refl _ _ | with_reducible refine below_al ?_ _ | with_reducible refine below_drew ?_ | with_reducible refine below_drewN ?_ _ | with_reducible refine below_set ?_ (by dsimp only; omega) _))⟩

set_option maxRecDepth 100000 in
set_option maxHeartbeats 1000000 in
theorem reftext_01 (n x : Int) (sx : ByteArray) (b1 : sx.size ≤ 50) (hn : ¬ n < 0)
    (HS1 : Hid (∀ w, Calls Tryd.prog 49 #[.int .i64 n] w fun e w' => e = .returned (.int .u64 x) ∧ Below w.heap.size w w')) (HD1 : Hid (∀ w, Calls Tryd.prog 61 #[.int .u64 x] w fun e w' => e = .returned (.string sx) ∧ Below w.heap.size w w')) (w : World) :
    Calls Tryd.prog 35 #[.agg #[.int .i64 n, .int .i64 1]] w fun e w' => e = .returned (.string (sx)) ∧ Below w.heap.size w w' := by
  go_enter Tryd.func35, Tryd.ntmps35
  go_wp2_with fail
  refine (HS1.out _).mono ?_
  rintro e v1 ⟨rfl, hb1⟩
  have k_a : At v1 (w.heap.size) 23 #[.int .i64 n, .int .i64 1] := At.bel (by (repeat (first | (with_reducible apply At.new'; (focus (simp; done))) | with_reducible apply At.al | with_reducible apply At.drw | with_reducible apply At.dr))) hb1
  have HB : Below w.heap.size w v1 := below_then (by repeat (first | with_reducible assumption | with_reducible exact Below.refl _ _ | with_reducible refine below_al ?_ _ | with_reducible refine below_drew ?_ | with_reducible refine below_drewN ?_ _ | with_reducible refine below_set ?_ (by dsimp only; omega) _)) hb1
  clear hb1
  have Lk_a := k_a.lt
  obtain ⟨k_a0, k_a1, k_a2, k_a3⟩ := k_a.two
  go_wp2_with fail
  refine (HD1.out _).mono ?_
  rintro e v2 ⟨rfl, hb2⟩
  clear k_a0 k_a1 k_a2 k_a3 Lk_a
  replace k_a : At v2 (w.heap.size) 23 #[.int .i64 n, .int .i64 1] := At.bel (by repeat (first | with_reducible assumption | with_reducible apply At.put0 | with_reducible apply At.put1 | with_reducible refine At.far ?_ (by dsimp only; omega) _ | with_reducible apply At.al | with_reducible apply At.drw | with_reducible apply At.dr)) hb2
  replace HB : Below w.heap.size w v2 := below_then (by repeat (first | with_reducible assumption | with_reducible exact Below.refl _ _ | with_reducible refine below_al ?_ _ | with_reducible refine below_drew ?_ | with_reducible refine below_drewN ?_ _ | with_reducible refine below_set ?_ (by dsimp only; omega) _)) hb2
  clear hb2
  have Lk_a := k_a.lt
  obtain ⟨k_a0, k_a1, k_a2, k_a3⟩ := k_a.two
  go_wp2_with fail
  go_ret
  exact ⟨rfl, (by repeat (first | with_reducible assumption | with_reducible exact Below.refl _ _ | with_reducible refine below_al ?_ _ | with_reducible refine below_drew ?_ | with_reducible refine below_drewN ?_ _ | with_reducible refine below_set ?_ (by dsimp only; omega) _))⟩

set_option maxRecDepth 100000 in
set_option maxHeartbeats 1000000 in
theorem reftext_10 (n d x y : Int) (sx sy : ByteArray) (b1 : sx.size ≤ 50) (b2 : sy.size ≤ 50) (hn : n < 0)
    (HS1 : Hid (∀ w, Calls Tryd.prog 49 #[.int .i64 n] w fun e w' => e = .returned (.int .u64 x) ∧ Below w.heap.size w w')) (HD1 : Hid (∀ w, Calls Tryd.prog 61 #[.int .u64 x] w fun e w' => e = .returned (.string sx) ∧ Below w.heap.size w w'))
    (HS2 : Hid (∀ w, Calls Tryd.prog 49 #[.int .i64 d] w fun e w' => e = .returned (.int .u64 y) ∧ Below w.heap.size w w')) (HD2 : Hid (∀ w, Calls Tryd.prog 61 #[.int .u64 y] w fun e w' => e = .returned (.string sy) ∧ Below w.heap.size w w')) (hd : ¬ d = 1) (hd2 : ((d : Int) == 1) = false) (hd3 : ((d : Int) != 1) = true) (w : World) :
    Calls Tryd.prog 35 #[.agg #[.int .i64 n, .int .i64 d]] w fun e w' => e = .returned (.string (⟨#[45]⟩ ++ sx ++ ⟨#[47]⟩ ++ sy)) ∧ Below w.heap.size w w' := by
  go_enter Tryd.func35, Tryd.ntmps35
  go_wp2_with fail
  refine (HS1.out _).mono ?_
  rintro e v1 ⟨rfl, hb1⟩
  have k_a : At v1 (w.heap.size) 23 #[.int .i64 n, .int .i64 d] := At.bel (by (repeat (first | (with_reducible apply At.new'; (focus (simp; done))) | with_reducible apply At.al | with_reducible apply At.drw | with_reducible apply At.dr))) hb1
  have HB : Below w.heap.size w v1 := below_then (by repeat (first | with_reducible assumption | with_reducible exact Below.refl _ _ | with_reducible refine below_al ?_ _ | with_reducible refine below_drew ?_ | with_reducible refine below_drewN ?_ _ | with_reducible refine below_set ?_ (by dsimp only; omega) _)) hb1
  clear hb1
  have Lk_a := k_a.lt
  obtain ⟨k_a0, k_a1, k_a2, k_a3⟩ := k_a.two
  go_wp2_with fail
  refine (HD1.out _).mono ?_
  rintro e v2 ⟨rfl, hb2⟩
  clear k_a0 k_a1 k_a2 k_a3 Lk_a
  replace k_a : At v2 (w.heap.size) 23 #[.int .i64 n, .int .i64 d] := At.bel (by repeat (first | with_reducible assumption | with_reducible apply At.put0 | with_reducible apply At.put1 | with_reducible refine At.far ?_ (by dsimp only; omega) _ | with_reducible apply At.al | with_reducible apply At.drw | with_reducible apply At.dr)) hb2
  replace HB : Below w.heap.size w v2 := below_then (by repeat (first | with_reducible assumption | with_reducible exact Below.refl _ _ | with_reducible refine below_al ?_ _ | with_reducible refine below_drew ?_ | with_reducible refine below_drewN ?_ _ | with_reducible refine below_set ?_ (by dsimp only; omega) _)) hb2
  clear hb2
  have Lk_a := k_a.lt
  obtain ⟨k_a0, k_a1, k_a2, k_a3⟩ := k_a.two
  go_wp2_with fail
  refine (HS2.out _).mono ?_
  rintro e v3 ⟨rfl, hb3⟩
  clear k_a0 k_a1 k_a2 k_a3 Lk_a
  replace k_a : At v3 (w.heap.size) 23 #[.int .i64 n, .int .i64 d] := At.bel (by repeat (first | with_reducible assumption | with_reducible apply At.put0 | with_reducible apply At.put1 | with_reducible refine At.far ?_ (by dsimp only; omega) _ | with_reducible apply At.al | with_reducible apply At.drw | with_reducible apply At.dr)) hb3
  replace HB : Below w.heap.size w v3 := below_then (by repeat (first | with_reducible assumption | with_reducible exact Below.refl _ _ | with_reducible refine below_al ?_ _ | with_reducible refine below_drew ?_ | with_reducible refine below_drewN ?_ _ | with_reducible refine below_set ?_ (by dsimp only; omega) _)) hb3
  clear hb3
  have Lk_a := k_a.lt
  obtain ⟨k_a0, k_a1, k_a2, k_a3⟩ := k_a.two
  go_wp2_with fail
  refine (HD2.out _).mono ?_
  rintro e v4 ⟨rfl, hb4⟩
  clear k_a0 k_a1 k_a2 k_a3 Lk_a
  replace k_a : At v4 (w.heap.size) 23 #[.int .i64 n, .int .i64 d] := At.bel (by repeat (first | with_reducible assumption | with_reducible apply At.put0 | with_reducible apply At.put1 | with_reducible refine At.far ?_ (by dsimp only; omega) _ | with_reducible apply At.al | with_reducible apply At.drw | with_reducible apply At.dr)) hb4
  replace HB : Below w.heap.size w v4 := below_then (by repeat (first | with_reducible assumption | with_reducible exact Below.refl _ _ | with_reducible refine below_al ?_ _ | with_reducible refine below_drew ?_ | with_reducible refine below_drewN ?_ _ | with_reducible refine below_set ?_ (by dsimp only; omega) _)) hb4
  clear hb4
  have Lk_a := k_a.lt
  obtain ⟨k_a0, k_a1, k_a2, k_a3⟩ := k_a.two
  go_wp2_with fail
  go_ret
  exact ⟨rfl, (by repeat (first | with_reducible assumption | with_reducible exact Below.refl _ _ | with_reducible refine below_al ?_ _ | with_reducible refine below_drew ?_ | with_reducible refine below_drewN ?_ _ | with_reducible refine below_set ?_ (by dsimp only; omega) _))⟩

set_option maxRecDepth 100000 in
set_option maxHeartbeats 1000000 in
theorem reftext_11 (n x : Int) (sx : ByteArray) (b1 : sx.size ≤ 50) (hn : n < 0)
    (HS1 : Hid (∀ w, Calls Tryd.prog 49 #[.int .i64 n] w fun e w' => e = .returned (.int .u64 x) ∧ Below w.heap.size w w')) (HD1 : Hid (∀ w, Calls Tryd.prog 61 #[.int .u64 x] w fun e w' => e = .returned (.string sx) ∧ Below w.heap.size w w')) (w : World) :
    Calls Tryd.prog 35 #[.agg #[.int .i64 n, .int .i64 1]] w fun e w' => e = .returned (.string (⟨#[45]⟩ ++ sx)) ∧ Below w.heap.size w w' := by
  go_enter Tryd.func35, Tryd.ntmps35
  go_wp2_with fail
  refine (HS1.out _).mono ?_
  rintro e v1 ⟨rfl, hb1⟩
  have k_a : At v1 (w.heap.size) 23 #[.int .i64 n, .int .i64 1] := At.bel (by (repeat (first | (with_reducible apply At.new'; (focus (simp; done))) | with_reducible apply At.al | with_reducible apply At.drw | with_reducible apply At.dr))) hb1
  have HB : Below w.heap.size w v1 := below_then (by repeat (first | with_reducible assumption | with_reducible exact Below.refl _ _ | with_reducible refine below_al ?_ _ | with_reducible refine below_drew ?_ | with_reducible refine below_drewN ?_ _ | with_reducible refine below_set ?_ (by dsimp only; omega) _)) hb1
  clear hb1
  have Lk_a := k_a.lt
  obtain ⟨k_a0, k_a1, k_a2, k_a3⟩ := k_a.two
  go_wp2_with fail
  refine (HD1.out _).mono ?_
  rintro e v2 ⟨rfl, hb2⟩
  clear k_a0 k_a1 k_a2 k_a3 Lk_a
  replace k_a : At v2 (w.heap.size) 23 #[.int .i64 n, .int .i64 1] := At.bel (by repeat (first | with_reducible assumption | with_reducible apply At.put0 | with_reducible apply At.put1 | with_reducible refine At.far ?_ (by dsimp only; omega) _ | with_reducible apply At.al | with_reducible apply At.drw | with_reducible apply At.dr)) hb2
  replace HB : Below w.heap.size w v2 := below_then (by repeat (first | with_reducible assumption | with_reducible exact Below.refl _ _ | with_reducible refine below_al ?_ _ | with_reducible refine below_drew ?_ | with_reducible refine below_drewN ?_ _ | with_reducible refine below_set ?_ (by dsimp only; omega) _)) hb2
  clear hb2
  have Lk_a := k_a.lt
  obtain ⟨k_a0, k_a1, k_a2, k_a3⟩ := k_a.two
  go_wp2_with fail
  go_ret
  exact ⟨rfl, (by repeat (first | with_reducible assumption | with_reducible exact Below.refl _ _ | with_reducible refine below_al ?_ _ | with_reducible refine below_drew ?_ | with_reducible refine below_drewN ?_ _ | with_reducible refine below_set ?_ (by dsimp only; omega) _))⟩

end Go.Proofs.YtpijmjffobkalaaDoor
