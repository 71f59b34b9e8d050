/- DecimalLong's walk: it returns true. -/
import Derived.Test.YtdbgfeeglnpobaaDoorDcAw
import Derived.Test.YtdbgfeeglnpobaaDoorDL1
set_option linter.unusedVariables false
namespace Go.Proofs.YtdbgfeeglnpobaaDoor
open Go.ChangeShapes Go.WideShapes Go.ChangeAt Go.RowKit

theorem own_slice {w : World} {base : Nat} {e : TypeId} {size : Nat} {v : Value} {n : Nat} {xs : List Value} (h : w.ownsRow base e size v n xs) : ∃ a cap, v = .slice a n cap := by
  obtain ⟨_, ⟨h1, h2⟩ | ⟨g, cap, cur, e1, _⟩⟩ := h
  · subst h2; exact ⟨none, 0, h1⟩
  · exact ⟨_, cap, e1⟩
theorem rep_all (c : UInt8) (m : Nat) : Lib.repeatL [c] m = List.replicate m c := by
  induction m with
  | zero => rfl
  | succ m ih => rw [Lib.repeatL, ih, List.replicate_succ]; rfl
theorem tok_blanks : ∀ (f n : Nat) (line col : Int) (acc : List Tk), n ≤ f → tokF f (List.replicate n 32) line col acc = (acc ++ [⟨5, [], line, col + n⟩], (0, 0), 0)
  | 0, n, line, col, acc, h => by
    obtain rfl : n = 0 := by omega
    rw [show col + ((0 : Nat) : Int) = col from by omega]
    rfl
  | f + 1, 0, line, col, acc, h => by
    rw [show col + ((0 : Nat) : Int) = col from by omega]
    rfl
  | f + 1, n + 1, line, col, acc, h => by
    have hn : nextL (List.replicate (n + 1) (32 : UInt8)) = (0, 1) := by
      rw [nextL_eq _ 32 rfl]
      exact if_pos (.inl rfl)
    unfold tokF
    rw [if_neg (by simp), hn, if_neg (show ¬ (0 : Int) < 0 by decide), if_neg (show ¬ (0 : Int) = 4 by decide), if_pos rfl]
    show tokF f ((List.replicate (n + 1) (32 : UInt8)).drop 1) line (col + ((1 : Nat) : Int)) acc = _
    rw [List.drop_replicate, tok_blanks f (n + 1 - 1) line _ acc (by omega)]
    rw [show col + ((1 : Nat) : Int) + ((n + 1 - 1 : Nat) : Int) = col + ((n + 1 : Nat) : Int) from by omega]
theorem tok_sp (n : Nat) (h : n ≤ 262144) : tokS (List.replicate n 32) = ([⟨5, [], 1, 1 + n⟩], (0, 0), 0) := by
  unfold tokS
  rw [List.length_replicate, if_neg (by omega), tok_blanks n n 1 1 [] (Nat.le_refl _)]
  rfl

set_option maxRecDepth 100000 in
set_option maxHeartbeats 1000000 in
theorem long_core (c : UInt8) (m N : Int) (L1 L2 : ByteArray) (p1 : Int × Int) (l2 : List Tk) (h1 : l2.length = 1) (w : World) (em : IntKind.i64.wrap m = m) (eN : IntKind.i64.wrap (262145 + m) = N)
    (HW : Hid (∀ u, Below w.heap.size w u → Calls Tryd.prog 11 #[] u fun e w' => e = .returned (.bool true) ∧ Below u.heap.size u w'))
    (HR1 : Hid (∀ w, Calls Tryd.prog 20 #[.string ⟨#[c]⟩, .int .i64 N] w fun e w' => e = .returned (.string L1) ∧ Below w.heap.size w w'))
    (HR2 : Hid (∀ w, Calls Tryd.prog 20 #[.string ⟨#[32]⟩, .int .i64 262144] w fun e w' => e = .returned (.string L2) ∧ Below w.heap.size w w'))
    (HT1 : Hid (∀ w, Calls Tryd.prog 19 #[.string L1] w fun e w' => tkR ([], (0, 0), 4) w.heap.size e w' ∧ Below w.heap.size w w'))
    (HT2 : Hid (∀ w, Calls Tryd.prog 19 #[.string L2] w fun e w' => tkR (l2, p1, 0) w.heap.size e w' ∧ Below w.heap.size w w')) :
    Calls Tryd.prog 6 #[.int .u8 (c.toNat : Int), .int .u8 m] w fun e w' => e = .returned (.bool true) ∧ Below w.heap.size w w' := by
  go_enter Tryd.func6, Tryd.ntmps6
  go_wp2_with fail
  refine (HW.out _ (Below.refl _ _)).mono ?_
  rintro e v1 ⟨rfl, hb1⟩
  have HB : Below w.heap.size w v1 := below_then (by repeat (first | with_reducible assumption | with_reducible exact Below.refl _ _ | with_reducible refine below_al ?_ _ | with_reducible refine below_drew ?_ | with_reducible refine below_drewN ?_ _ | with_reducible refine below_set ?_ (by dsimp only; omega) _)) hb1
  clear hb1
  have hconv : (convert 42 9 (.slice (some ⟨v1.heap.size, 0, none⟩) 1 1)).run Tryd.prog (v1.alloc (.cells #[.int .u8 (c.toNat : Int)] 5)) = .ok (.string ⟨#[c]⟩) (v1.alloc (.cells #[.int .u8 (c.toNat : Int)] 5)) :=
    run_convert_bytes_back _ _ _ 5 ⟨v1.heap.size, 0, none⟩ 1 [c] Tryd.underlying42 Tryd.underlying5 Tryd.underlying9 (fun j hj => by
      have : j = 0 := by simpa using hj
      subst this
      simp [Addr.add])
  go_wp2_with fail
  refine (HR1.out _).mono ?_
  rintro e v2 ⟨rfl, hb2⟩
  replace HB : Below w.heap.size w v2 := below_then (by repeat (first | with_reducible assumption | with_reducible exact Below.refl _ _ | with_reducible refine below_al ?_ _ | with_reducible refine below_drew ?_ | with_reducible refine below_drewN ?_ _ | with_reducible refine below_set ?_ (by dsimp only; omega) _)) hb2
  clear hb2
  clear hconv
  go_wp2_with fail
  refine (HT1.out _).mono ?_
  rintro e v3 ⟨⟨t1, rfl, hown⟩, hb3⟩
  replace HB : Below w.heap.size w v3 := below_then (by repeat (first | with_reducible assumption | with_reducible exact Below.refl _ _ | with_reducible refine below_al ?_ _ | with_reducible refine below_drew ?_ | with_reducible refine below_drewN ?_ _ | with_reducible refine below_set ?_ (by dsimp only; omega) _)) hb3
  clear hb3
  obtain ⟨a1, cap1, rfl⟩ := own_slice hown
  clear hown
  go_wp2_with fail
  refine (HR2.out _).mono ?_
  rintro e v4 ⟨rfl, hb4⟩
  have k_p : At v4 (v3.heap.size) 38 #[.int .i64 0, .int .i64 0] := At.bel (by (repeat (first | (with_reducible apply At.new'; (focus (simp; done))) | with_reducible apply At.al | with_reducible apply At.drw | with_reducible apply At.dr))) hb4
  replace HB : Below w.heap.size w v4 := below_then (by repeat (first | with_reducible assumption | with_reducible exact Below.refl _ _ | with_reducible refine below_al ?_ _ | with_reducible refine below_drew ?_ | with_reducible refine below_drewN ?_ _ | with_reducible refine below_set ?_ (by dsimp only; omega) _)) hb4
  clear hb4
  go_wp2_with fail
  refine (HT2.out _).mono ?_
  rintro e v5 ⟨⟨t2, rfl, hown⟩, hb5⟩
  replace k_p : At v5 (v3.heap.size) 38 #[.int .i64 0, .int .i64 0] := At.bel (by repeat (first | with_reducible assumption | with_reducible apply At.put0 | with_reducible apply At.put1 | with_reducible refine At.far ?_ (by dsimp only; omega) _ | with_reducible apply At.al | with_reducible apply At.drw | with_reducible apply At.dr)) hb5
  replace HB : Below w.heap.size w v5 := below_then (by repeat (first | with_reducible assumption | with_reducible exact Below.refl _ _ | with_reducible refine below_al ?_ _ | with_reducible refine below_drew ?_ | with_reducible refine below_drewN ?_ _ | with_reducible refine below_set ?_ (by dsimp only; omega) _)) hb5
  clear hb5
  have Lk_p := k_p.lt
  obtain ⟨k_p0, k_p1, k_p2, k_p3⟩ := k_p.two
  obtain ⟨a2, cap2, rfl⟩ := own_slice hown
  clear hown
  go_wp2_with fail
  go_ret
  exact ⟨rfl, (by repeat (first | with_reducible assumption | with_reducible exact Below.refl _ _ | with_reducible refine below_al ?_ _ | with_reducible refine below_drew ?_ | with_reducible refine below_drewN ?_ _ | with_reducible refine below_set ?_ (by dsimp only; omega) _))⟩
theorem decimalLong_walk (x m : Int) (hx : (Lit.int .u8 x).wf = true) (hm : (Lit.int .u8 m).wf = true) (w : World) (ht : Tab w) :
    Calls Tryd.prog 6 #[.int .u8 x, .int .u8 m] w fun e w' => e = .returned (.bool true) ∧ Below w.heap.size w w' := by
  have lim : ∀ n : Int, (Lit.int .u8 n).wf = true → 0 ≤ n ∧ n ≤ 255 := fun n h => by
    have e1 : IntKind.u8.min = 0 := by decide
    have e2 : IntKind.u8.max = 255 := by decide
    simp only [Lit.wf, Bool.and_eq_true, decide_eq_true_eq, e1, e2] at h
    exact h
  have b1 := lim x hx
  have b2 := lim m hm
  obtain ⟨c, rfl⟩ : ∃ c : UInt8, x = (c.toNat : Int) := ⟨UInt8.ofNat x.toNat, by simp; omega⟩
  obtain ⟨k, rfl⟩ : ∃ k : Nat, m = (k : Int) := ⟨m.toNat, by omega⟩
  obtain ⟨q, hq⟩ : ∃ q : Nat, 262144 = q := ⟨_, rfl⟩
  have HT1 := fun w => tokens_long ⟨(Lib.repeatL [c] (q + 1 + k)).toArray⟩ (by rw [mk_size, rep_all, List.length_replicate]; omega) w
  have HT2 := fun w => tokens_any ⟨(Lib.repeatL [32] q).toArray⟩ w
  rw [mk_by, rep_all 32, tok_sp q (by omega)] at HT2
  have HR2 := fun w => Tryd.strings_Repeat ⟨#[32]⟩ q w (by omega) (by show 1 * _ ≤ _; omega)
  rw [show (⟨#[32]⟩ : ByteArray).data.toList = [32] from rfl, rep_all 32] at HR2
  rw [show ((q : Nat) : Int) = 262144 from by omega] at HR2
  exact long_core c (k : Int) ((q + 1 + k : Nat) : Int) _ _ (0, 0) _ rfl w (wrap_in (by omega)) (by rw [wrap_in (by omega)]; omega) (Lib.hid (fun u (hb : Below w.heap.size w u) => awake_any u (ht.bel hb)))
    (Lib.hid (fun w => Tryd.strings_Repeat ⟨#[c]⟩ (q + 1 + k) w (by omega) (by show 1 * _ ≤ _; omega))) (Lib.hid HR2) (Lib.hid HT1) (Lib.hid HT2)

end Go.Proofs.YtdbgfeeglnpobaaDoor
