/- ratio's numbers of 128 bits: plus, minus, less, over: what becomes of one number below 2^128. -/
import Derived.Test.YtpijmjffobkalaaDoorRaMul
import Derived.Test.YtpijmjffobkalaaDoorGc
import Derived.Test.YtpijmjffobkalaaDoorDiv2
import Derived.Shelf.Spec.BitsCarry
set_option linter.unusedVariables false
namespace Go.Proofs.YtpijmjffobkalaaDoor
open Go.ChangeShapes Go.WideShapes Go.ChangeAt Go.RowKit

theorem add64_run (x y c : Nat) (hc : c ≤ 1) (w : World) : (callFunc 66 #[.int .u64 (x : Int), .int .u64 (y : Int), .int .u64 (c : Int)]).run Tryd.prog w =
    .ok (.value (.tuple #[.int .u64 (((x + y + c) % 18446744073709551616 : Nat) : Int), .int .u64 (((x + y + c) / 18446744073709551616 : Nat) : Int)])) w := by
  rw [run_callFunc_extern Tryd.func66 (by kernel_rfl) (by kernel_rfl) (by kernel_rfl) (e := add64Entry) (by kernel_rfl), run_add64 x y c (by omega) (by omega) (by omega) (by omega)]
  simp only [Result.andThen]
  congr 5 <;> omega
theorem sub64_run (x y b : Nat) (hb : b ≤ 1) (w : World) : (callFunc 67 #[.int .u64 (x : Int), .int .u64 (y : Int), .int .u64 (b : Int)]).run Tryd.prog w =
    .ok (.value (.tuple #[.int .u64 (((x + 18446744073709551616 - y - b) % 18446744073709551616 : Nat) : Int), .int .u64 ((if x < y + b then 1 else 0 : Nat) : Int)])) w := by
  rw [run_callFunc_extern Tryd.func67 (by kernel_rfl) (by kernel_rfl) (by kernel_rfl) (e := sub64Entry) (by kernel_rfl), run_sub64 x y b hb]
  rfl

set_option maxRecDepth 100000 in
theorem rplus_core (ah al bh bl s c t d : Nat) (h1 : ∀ w, (callFunc 66 #[.int .u64 (al : Int), .int .u64 (bl : Int), .int .u64 0]).run Tryd.prog w = .ok (.value (.tuple #[.int .u64 (s : Int), .int .u64 (c : Int)])) w)
    (h2 : ∀ w, (callFunc 66 #[.int .u64 (ah : Int), .int .u64 (bh : Int), .int .u64 (c : Int)]).run Tryd.prog w = .ok (.value (.tuple #[.int .u64 (t : Int), .int .u64 (d : Int)])) w) (w : World) :
    Calls Tryd.prog 43 #[.agg #[.int .u64 (ah : Int), .int .u64 (al : Int)], .agg #[.int .u64 (bh : Int), .int .u64 (bl : Int)]] w fun e w' => e = .returned (.agg #[.int .u64 (t : Int), .int .u64 (s : Int)]) ∧ Below w.heap.size w w' := by
  go_enter Tryd.func43, Tryd.ntmps43
  go_wp2
  exact bodyPost_ret (v := .agg #[.int .u64 (t : Int), .int .u64 (s : Int)]) (by simp [results, Tryd.results43, go_sem]) rfl ⟨rfl, (by repeat (first | with_reducible assumption | with_reducible exact Below.refl _ _ | with_reducible refine below_al ?_ _ | with_reducible refine below_drew ?_ | with_reducible refine below_drewN ?_ _ | with_reducible refine below_set ?_ (by dsimp only; omega) _))⟩

set_option maxRecDepth 100000 in
theorem rminus_core (ah al bh bl s c t d : Nat) (h1 : ∀ w, (callFunc 67 #[.int .u64 (al : Int), .int .u64 (bl : Int), .int .u64 0]).run Tryd.prog w = .ok (.value (.tuple #[.int .u64 (s : Int), .int .u64 (c : Int)])) w)
    (h2 : ∀ w, (callFunc 67 #[.int .u64 (ah : Int), .int .u64 (bh : Int), .int .u64 (c : Int)]).run Tryd.prog w = .ok (.value (.tuple #[.int .u64 (t : Int), .int .u64 (d : Int)])) w) (w : World) :
    Calls Tryd.prog 45 #[.agg #[.int .u64 (ah : Int), .int .u64 (al : Int)], .agg #[.int .u64 (bh : Int), .int .u64 (bl : Int)]] w fun e w' => e = .returned (.agg #[.int .u64 (t : Int), .int .u64 (s : Int)]) ∧ Below w.heap.size w w' := by
  go_enter Tryd.func45, Tryd.ntmps45
  go_wp2
  exact bodyPost_ret (v := .agg #[.int .u64 (t : Int), .int .u64 (s : Int)]) (by simp [results, Tryd.results45, go_sem]) rfl ⟨rfl, (by repeat (first | with_reducible assumption | with_reducible exact Below.refl _ _ | with_reducible refine below_al ?_ _ | with_reducible refine below_drew ?_ | with_reducible refine below_drewN ?_ _ | with_reducible refine below_set ?_ (by dsimp only; omega) _))⟩

theorem rplus_u (A B : Nat) (h : A + B < 340282366920938463463374607431768211456) (w : World) :
    Calls Tryd.prog 43 #[uv A, uv B] w fun e w' => e = .returned (uv (A + B)) ∧ Below w.heap.size w w' := by
  have a1 := hilo A; have a2 := loN_lt A; have b1 := hilo B; have b2 := loN_lt B
  have c1 := hilo (A + B); have c2 := loN_lt (A + B)
  have e1 : (loN A + loN B + 0) % 18446744073709551616 = loN (A + B) := by omega
  have e2 : (hiN A + hiN B + (loN A + loN B + 0) / 18446744073709551616) % 18446744073709551616 = hiN (A + B) := by omega
  have := rplus_core (hiN A) (loN A) (hiN B) (loN B) _ _ _ _ (add64_run (loN A) (loN B) 0 (by omega)) (add64_run (hiN A) (hiN B) ((loN A + loN B + 0) / 18446744073709551616) (by omega)) w
  rw [e1, e2] at this
  exact this
theorem rminus_u (A B : Nat) (hA : A < 340282366920938463463374607431768211456) (h : B ≤ A) (w : World) :
    Calls Tryd.prog 45 #[uv A, uv B] w fun e w' => e = .returned (uv (A - B)) ∧ Below w.heap.size w w' := by
  have a1 := hilo A; have a2 := loN_lt A; have b1 := hilo B; have b2 := loN_lt B
  have c1 := hilo (A - B); have c2 := loN_lt (A - B); have a3 := hiN_lt hA
  have e1 : (loN A + 18446744073709551616 - loN B - 0) % 18446744073709551616 = loN (A - B) := by omega
  have e2 : (hiN A + 18446744073709551616 - hiN B - (if loN A < loN B + 0 then 1 else 0)) % 18446744073709551616 = hiN (A - B) := by split <;> omega
  have := rminus_core (hiN A) (loN A) (hiN B) (loN B) _ _ _ _ (sub64_run (loN A) (loN B) 0 (by omega)) (sub64_run (hiN A) (hiN B) (if loN A < loN B + 0 then 1 else 0) (by split <;> omega)) w
  rw [e1, e2] at this
  exact this

theorem rless_any (ah al bh bl : Int) (w : World) :
    Calls Tryd.prog 44 #[.agg #[.int .u64 ah, .int .u64 al], .agg #[.int .u64 bh, .int .u64 bl]] w fun e w' => e = .returned (.bool (decide (ah < bh ∨ ah = bh ∧ al < bl))) ∧ Below w.heap.size w w' := by
  by_cases h1 : ah < bh
  · rw [show decide (ah < bh ∨ ah = bh ∧ al < bl) = true from decide_eq_true (.inl h1)]
    go_enter Tryd.func44, Tryd.ntmps44
    go_wp2
    go_ret
    exact ⟨rfl, (by repeat (first | with_reducible assumption | with_reducible exact Below.refl _ _ | with_reducible refine below_al ?_ _ | with_reducible refine below_drew ?_ | with_reducible refine below_drewN ?_ _ | with_reducible refine below_set ?_ (by dsimp only; omega) _))⟩
  · by_cases h2 : ah = bh
    · by_cases h3 : al < bl
      · rw [show decide (ah < bh ∨ ah = bh ∧ al < bl) = true from decide_eq_true (.inr ⟨h2, h3⟩)]
        subst h2
        go_enter Tryd.func44, Tryd.ntmps44
        go_wp2
        go_ret
        exact ⟨rfl, (by repeat (first | with_reducible assumption | with_reducible exact Below.refl _ _ | with_reducible refine below_al ?_ _ | with_reducible refine below_drew ?_ | with_reducible refine below_drewN ?_ _ | with_reducible refine below_set ?_ (by dsimp only; omega) _))⟩
      · rw [show decide (ah < bh ∨ ah = bh ∧ al < bl) = false from decide_eq_false (by omega)]
        subst h2
        go_enter Tryd.func44, Tryd.ntmps44
        go_wp2
        go_ret
        exact ⟨rfl, (by repeat (first | with_reducible assumption | with_reducible exact Below.refl _ _ | with_reducible refine below_al ?_ _ | with_reducible refine below_drew ?_ | with_reducible refine below_drewN ?_ _ | with_reducible refine below_set ?_ (by dsimp only; omega) _))⟩
    · rw [show decide (ah < bh ∨ ah = bh ∧ al < bl) = false from decide_eq_false (by omega)]
      have h2' : (ah == bh) = false := by simpa using h2
      go_enter Tryd.func44, Tryd.ntmps44
      go_wp2
      go_ret
      exact ⟨rfl, (by repeat (first | with_reducible assumption | with_reducible exact Below.refl _ _ | with_reducible refine below_al ?_ _ | with_reducible refine below_drew ?_ | with_reducible refine below_drewN ?_ _ | with_reducible refine below_set ?_ (by dsimp only; omega) _))⟩
theorem rless_u (A B : Nat) (w : World) :
    Calls Tryd.prog 44 #[uv A, uv B] w fun e w' => e = .returned (.bool (decide (A < B))) ∧ Below w.heap.size w w' := by
  have := rless_any (hiN A) (loN A) (hiN B) (loN B) w
  rw [show decide ((hiN A : Int) < (hiN B : Int) ∨ (hiN A : Int) = (hiN B : Int) ∧ (loN A : Int) < (loN B : Int)) = decide (A < B) from by
    have a1 := hilo A; have a2 := loN_lt A; have b1 := hilo B; have b2 := loN_lt B
    rw [Bool.eq_iff_iff, decide_eq_true_iff, decide_eq_true_iff]; omega] at this
  exact this

set_option maxRecDepth 100000 in
theorem rover_core (ah al b r q s x : Nat) (hb : (1 : Int) ≤ (b : Int)) (z1 : ((b : Int) == 0) = false) (z2 : ¬ (b : Int) = 0) (e1 : (ah : Int) % (b : Int) = (r : Int)) (e2 : (ah : Int) / (b : Int) = (x : Int)) (e3 : IntKind.u64.wrap (x : Int) = (x : Int)) (e4 : IntKind.u64.wrap (r : Int) = (r : Int))
    (HD : Hid (∀ w, Calls Tryd.prog 68 #[.int .u64 (r : Int), .int .u64 (al : Int), .int .u64 (b : Int)] w fun e w' => e = .returned (.tuple #[.int .u64 (q : Int), .int .u64 (s : Int)]) ∧ Below w.heap.size w w')) (w : World) :
    Calls Tryd.prog 46 #[.agg #[.int .u64 (ah : Int), .int .u64 (al : Int)], .int .u64 (b : Int)] w fun e w' => e = .returned (.tuple #[.agg #[.int .u64 (x : Int), .int .u64 (q : Int)], .int .u64 (s : Int)]) ∧ Below w.heap.size w w' := by
  go_enter Tryd.func46, Tryd.ntmps46
  go_wp2_with fail
  generalize hW : World.alloc _ _ = W
  have k_a : At W (w.heap.size) 59 #[.int .u64 (ah : Int), .int .u64 (al : Int)] := by rw [← hW]; (repeat (first | (with_reducible apply At.new'; (focus (simp; done))) | with_reducible apply At.al | with_reducible apply At.drw | with_reducible apply At.dr))
  have k_o : At W (w.heap.size + 1) 59 #[.int .u64 0, .int .u64 0] := by rw [← hW]; (repeat (first | (with_reducible apply At.new'; (focus (simp; done))) | with_reducible apply At.al | with_reducible apply At.drw | with_reducible apply At.dr))
  have HB : Below w.heap.size w W := by rw [← hW]; repeat (first | with_reducible assumption | with_reducible exact Below.refl _ _ | with_reducible refine below_al ?_ _ | with_reducible refine below_drew ?_ | with_reducible refine below_drewN ?_ _ | with_reducible refine below_set ?_ (by dsimp only; omega) _)
  clear hW
  have Kk_a0 := cell_regrown k_a.c0
  have Kk_a1 := cell_regrown k_a.c1
  have Kk_o0 := cell_regrown k_o.c0
  have Kk_o1 := cell_regrown k_o.c1
  refine wp_region_quiet_below (by kernel_rfl) (by kernel_rfl) ?_
  repeat (go_big_quiet_step ((first | with_reducible exact regrown_call HD.out)))
  refine wpQuiet_nil ?_
  intro v1 hb1'
  have hb1 := below_of_regrown hb1'
  clear hb1' Kk_a0 Kk_a1 Kk_o0 Kk_o1
  replace k_a : At v1 (w.heap.size) 59 #[.int .u64 (ah : Int), .int .u64 (al : Int)] := At.bel (by repeat (first | with_reducible assumption | with_reducible apply At.put0 | with_reducible apply At.put1 | with_reducible refine At.far ?_ (by dsimp only; omega) _ | with_reducible apply At.al | with_reducible apply At.drw | with_reducible apply At.dr)) hb1
  replace k_o : At v1 (w.heap.size + 1) 59 #[.int .u64 0, .int .u64 0] := At.bel (by repeat (first | with_reducible assumption | with_reducible apply At.put0 | with_reducible apply At.put1 | with_reducible refine At.far ?_ (by dsimp only; omega) _ | with_reducible apply At.al | with_reducible apply At.drw | with_reducible apply At.dr)) hb1
  have HB : Below w.heap.size w v1 := below_then (by repeat (first | with_reducible assumption | with_reducible exact Below.refl _ _ | with_reducible refine below_al ?_ _ | with_reducible refine below_drew ?_ | with_reducible refine below_drewN ?_ _ | with_reducible refine below_set ?_ (by dsimp only; omega) _)) hb1
  clear hb1
  have Lk_a := k_a.lt
  obtain ⟨k_a0, k_a1, k_a2, k_a3⟩ := k_a.two
  have Lk_o := k_o.lt
  obtain ⟨k_o0, k_o1, k_o2, k_o3⟩ := k_o.two
  go_wp2_with fail
  exact bodyPost_ret (v := .tuple #[.agg #[.int .u64 (x : Int), .int .u64 (q : Int)], .int .u64 (s : Int)]) (by simp [results, Tryd.results46, go_sem, *]) rfl ⟨rfl, (by repeat (first | with_reducible assumption | with_reducible exact Below.refl _ _ | with_reducible refine below_al ?_ _ | with_reducible refine below_drew ?_ | with_reducible refine below_drewN ?_ _ | with_reducible refine below_set ?_ (by dsimp only; omega) _))⟩
theorem rover_u (A b : Nat) (hA : A < 340282366920938463463374607431768211456) (h0 : 0 < b) (hb : b < 18446744073709551616) (w : World) :
    Calls Tryd.prog 46 #[uv A, .int .u64 (b : Int)] w fun e w' => e = .returned (.tuple #[uv (A / b), .int .u64 ((A % b : Nat) : Int)]) ∧ Below w.heap.size w w' := by
  have a1 := hilo A; have a2 := loN_lt A; have a3 := hiN_lt hA
  have hr : hiN A % b < b := Nat.mod_lt _ h0
  have hx : hiN A / b ≤ hiN A := Nat.div_le_self _ _
  have HD := Lib.hid (fun w => div64_any (hiN A % b) (loN A) b a2 hb hr w)
  have eA : A = (hiN A / b) * 18446744073709551616 * b + (hiN A % b * 18446744073709551616 + loN A) := by
    have := Nat.div_add_mod' (hiN A) b
    have e : hiN A * 18446744073709551616 = (hiN A / b * b + hiN A % b) * 18446744073709551616 := by rw [this]
    rw [Nat.add_mul] at e
    have e2 : hiN A / b * b * 18446744073709551616 = hiN A / b * 18446744073709551616 * b := by ac_rfl
    omega
  have hq : (hiN A % b * 18446744073709551616 + loN A) / b < 18446744073709551616 := by
    rw [Nat.div_lt_iff_lt_mul h0]
    have : (hiN A % b + 1) * 18446744073709551616 ≤ b * 18446744073709551616 := Nat.mul_le_mul_right _ hr
    rw [Nat.mul_comm 18446744073709551616 b]
    omega
  have d1 : A / b = (hiN A / b) * 18446744073709551616 + (hiN A % b * 18446744073709551616 + loN A) / b := by
    conv => lhs; rw [eA]
    rw [Nat.add_comm (hiN A / b * 18446744073709551616 * b), Nat.add_mul_div_right _ _ h0, Nat.add_comm]
  have d2 : A % b = (hiN A % b * 18446744073709551616 + loN A) % b := by
    conv => lhs; rw [eA]
    rw [Nat.add_comm (hiN A / b * 18446744073709551616 * b), Nat.add_mul_mod_self_right]
  have e1 : hiN (A / b) = hiN A / b ∧ loN (A / b) = (hiN A % b * 18446744073709551616 + loN A) / b := by
    rw [d1]; exact hilo_of hq
  have := rover_core (hiN A) (loN A) b (hiN A % b) _ _ (hiN A / b) (by omega) (by simp; omega) (by omega) (Int.natCast_emod _ _).symm (div_cast _ _) (by rw [IntKind.wrap_u64]; omega) (by rw [IntKind.wrap_u64]; omega) HD w
  simp only [uv, e1.1, e1.2, d2]
  exact this
#print axioms rover_u

end Go.Proofs.YtpijmjffobkalaaDoor
