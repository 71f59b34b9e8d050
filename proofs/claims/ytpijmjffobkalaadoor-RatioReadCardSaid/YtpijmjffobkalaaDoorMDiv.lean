/- Plain arithmetic under math/bits.Div64: the quotient of two halves by one, digit by digit. No program in sight. -/
set_option linter.unusedVariables false
namespace Go.Proofs.YtpijmjffobkalaaDoor

/-- The digit that is sought. -/
def kq (y u v : Nat) : Nat := (u * 4294967296 + v) / y
def kr (y u v : Nat) : Nat := (u * 4294967296 + v) % y

theorem k_lt {y u v : Nat} (hu : u < y) (hv : v < 4294967296) : kq y u v < 4294967296 := by
  unfold kq
  rw [Nat.div_lt_iff_lt_mul (by omega)]
  omega

theorem kr_lt {y u v : Nat} (hu : u < y) : kr y u v < y := Nat.mod_lt _ (by omega)

theorem k_eq (y u v : Nat) : y * kq y u v + kr y u v = u * 4294967296 + v := Nat.div_add_mod _ _

/-- What holds of q and rhat at the head of the loop. -/
structure KInv (y1 y0 u v q r : Nat) : Prop where
  sum : q * y1 + r = u
  low : kq (y1 * 4294967296 + y0) u v ≤ q
  top : q ≤ 4294967297

theorem k_start {y1 y0 u v : Nat} (h1 : 2147483648 ≤ y1) (h0 : y0 < 4294967296) (hu : u < y1 * 4294967296 + y0) (hv : v < 4294967296) :
    KInv y1 y0 u v (u / y1) (u % y1) := by
  refine ⟨by rw [Nat.mul_comm]; exact Nat.div_add_mod u y1, ?_, ?_⟩
  · unfold kq
    have e1 : (u * 4294967296 + v) / (y1 * 4294967296 + y0) ≤ (u * 4294967296 + v) / (y1 * 4294967296) := Nat.div_le_div_left (by omega) (by omega)
    have e2 : (u * 4294967296 + v) / (y1 * 4294967296) = u / y1 := by
      rw [Nat.mul_comm y1, ← Nat.div_div_eq_div_mul]
      congr 1
      omega
    omega
  · have : u / y1 < 4294967298 := by
      rw [Nat.div_lt_iff_lt_mul (by omega)]
      omega
    omega

theorem k_times (y1 y0 u v q r : Nat) (hs : q * y1 + r = u) : q * (y1 * 4294967296 + y0) + r * 4294967296 = u * 4294967296 + q * y0 := by
  rw [Nat.mul_add, ← Nat.mul_assoc, ← hs, Nat.add_mul]
  omega

theorem k_more {y1 y0 u v q r : Nat} (h1 : 2147483648 ≤ y1) (h0 : y0 < 4294967296) (hu : u < y1 * 4294967296 + y0) (hv : v < 4294967296)
    (h : KInv y1 y0 u v q r) (hc : 4294967296 ≤ q ∨ 4294967296 * r + v < q * y0) : 1 ≤ q ∧ KInv y1 y0 u v (q - 1) (r + y1) := by
  have hk := k_lt (y := y1 * 4294967296 + y0) hu hv
  have hlt : kq (y1 * 4294967296 + y0) u v < q := by
    rcases hc with hc | hc
    · omega
    · unfold kq
      rw [Nat.div_lt_iff_lt_mul (by omega)]
      have := k_times y1 y0 u v q r h.sum
      omega
  refine ⟨by omega, ?_, by omega, by have := h.top; omega⟩
  have hs := h.sum
  have : (q - 1) * y1 + y1 = q * y1 := by
    rw [← Nat.succ_mul]
    congr 1
    omega
  omega

theorem k_done {y1 y0 u v q r : Nat} (h1 : 2147483648 ≤ y1) (h : KInv y1 y0 u v q r) (hc : q * y0 ≤ 4294967296 * r + v) : q = kq (y1 * 4294967296 + y0) u v := by
  refine Nat.le_antisymm ?_ h.low
  unfold kq
  rw [Nat.le_div_iff_mul_le (by omega)]
  have := k_times y1 y0 u v q r h.sum
  omega

theorem k_break {y1 y0 u v q r : Nat} (h1 : 2147483648 ≤ y1) (h0 : y0 < 4294967296) (h : KInv y1 y0 u v q r) (hq : q ≤ 4294967296) (hr : 4294967296 ≤ r) :
    q = kq (y1 * 4294967296 + y0) u v := by
  refine k_done h1 h ?_
  have a : q * y0 ≤ 4294967296 * y0 := Nat.mul_le_mul_right _ hq
  have b : 4294967296 * y0 ≤ 4294967296 * r := Nat.mul_le_mul_left _ (by omega)
  omega

/-- Two digits, one after the other. -/
theorem k_two (y u a b : Nat) (hy : 0 < y) :
    kq y u a * 4294967296 + kq y (kr y u a) b = ((u * 4294967296 + a) * 4294967296 + b) / y ∧ kr y (kr y u a) b = ((u * 4294967296 + a) * 4294967296 + b) % y := by
  have e1 := k_eq y u a
  have e2 := k_eq y (kr y u a) b
  have e : (u * 4294967296 + a) * 4294967296 + b = y * (kq y u a * 4294967296 + kq y (kr y u a) b) + kr y (kr y u a) b := by
    rw [← e1, Nat.add_mul, Nat.mul_add, Nat.mul_assoc]
    omega
  have hlt : kr y (kr y u a) b < y := Nat.mod_lt _ hy
  rw [e]
  constructor
  · rw [Nat.mul_add_div hy, Nat.div_eq_of_lt hlt, Nat.add_zero]
  · rw [Nat.mul_add_mod, Nat.mod_eq_of_lt hlt]

/-- The whole: hi 2^64 + lo, moved s places, by y, moved s places. -/
theorem k_whole (hi lo y s : Nat) (hlo : lo < 18446744073709551616) (hs : s ≤ 63) (hhi : hi < y) :
    let Y := y * 2 ^ s
    let u := hi * 2 ^ s + lo / 2 ^ (64 - s)
    let t := lo * 2 ^ s % 18446744073709551616
    u < Y ∧ (u * 4294967296 + t / 4294967296) * 4294967296 + t % 4294967296 = (hi * 18446744073709551616 + lo) * 2 ^ s := by
  intro Y u t
  have hp : 2 ^ (64 - s) * 2 ^ s = 18446744073709551616 := by rw [← Nat.pow_add, Nat.sub_add_cancel (by omega)]
  have hpos : 0 < 2 ^ s := Nat.pow_pos (by omega)
  have hpos' : 0 < 2 ^ (64 - s) := Nat.pow_pos (by omega)
  have hsm : lo / 2 ^ (64 - s) < 2 ^ s := by
    rw [Nat.div_lt_iff_lt_mul hpos', Nat.mul_comm, hp]; exact hlo
  have e1 : lo * 2 ^ s / 18446744073709551616 = lo / 2 ^ (64 - s) := by
    rw [← hp, Nat.mul_div_mul_right _ _ hpos]
  have e2 := Nat.div_add_mod (lo * 2 ^ s) 18446744073709551616
  refine ⟨?_, ?_⟩
  · have : (hi + 1) * 2 ^ s ≤ y * 2 ^ s := Nat.mul_le_mul_right _ hhi
    rw [Nat.add_mul] at this
    show hi * 2 ^ s + lo / 2 ^ (64 - s) < y * 2 ^ s
    omega
  · show ((hi * 2 ^ s + lo / 2 ^ (64 - s)) * 4294967296 + lo * 2 ^ s % 18446744073709551616 / 4294967296) * 4294967296 + lo * 2 ^ s % 18446744073709551616 % 4294967296 = (hi * 18446744073709551616 + lo) * 2 ^ s
    have e3 : hi * 18446744073709551616 * 2 ^ s = hi * 2 ^ s * 18446744073709551616 := Nat.mul_right_comm _ _ _
    rw [Nat.add_mul _ _ (2 ^ s), e3]
    rw [e1] at e2
    generalize lo * 2 ^ s = L at *
    generalize lo / 2 ^ (64 - s) = M at *
    generalize hi * 2 ^ s = H at *
    omega

theorem k_div (N y s : Nat) : N * 2 ^ s / (y * 2 ^ s) = N / y := Nat.mul_div_mul_right _ _ (Nat.pow_pos (by omega))
theorem k_mod (N y s : Nat) : N * 2 ^ s % (y * 2 ^ s) / 2 ^ s = N % y := by
  rw [Nat.mul_mod_mul_right, Nat.mul_div_cancel _ (Nat.pow_pos (by omega))]
end Go.Proofs.YtpijmjffobkalaaDoor
