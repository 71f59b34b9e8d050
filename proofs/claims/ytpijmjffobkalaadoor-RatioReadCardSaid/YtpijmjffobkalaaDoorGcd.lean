/- The reference's greatest common divisor of two magnitudes. -/
import Derived.Test.YtpijmjffobkalaaDoorGc
import Derived.Deep.DeepCutAuto
import Derived.Deep.RegionWith
import Derived.Deep.CutBlock
set_option linter.unusedVariables false
namespace Go.Proofs.YtpijmjffobkalaaDoor
open Go.ChangeShapes Go.WideShapes Go.ChangeAt Go.RowKit

/-- The last bit, as the walk asks for it. -/
theorem bit_of (A : Nat) : bits .and .u64 (loN A : Int) 1 = ((A % 2 : Nat) : Int) := by
  have hl := loN_lt A
  have e : ∀ a : Nat, a < 18446744073709551616 → (BitVec.ofInt 64 (a : Int)).toNat = a := fun a ha => by
    rw [BitVec.ofInt_natCast, BitVec.toNat_ofNat]; exact Nat.mod_eq_of_lt (by omega)
  show IntKind.u64.wrap ((BitVec.ofInt 64 (loN A : Int) &&& BitVec.ofInt 64 ((1 : Nat) : Int)).toNat : Int) = _
  rw [BitVec.toNat_and, e _ hl, e 1 (by omega), IntKind.wrap_u64, Nat.and_one_is_mod, lo_even]
  omega
theorem zero_parts {A : Nat} : A = 0 ↔ hiN A = 0 ∧ loN A = 0 := by
  have := hilo A
  constructor
  · rintro rfl; exact ⟨rfl, rfl⟩
  · rintro ⟨h, k⟩; omega
theorem ne_parts {A : Nat} (h : 0 < A) : ((hiN A : Int) == 0) = false ∨ ((hiN A : Int) == 0) = true ∧ ((loN A : Int) == 0) = false := by
  have := zero_parts (A := A)
  rcases Nat.eq_zero_or_pos (hiN A) with k | k
  · right
    simp; omega
  · left
    simp; omega
theorem lt_of_eq {a b c : Nat} (h : a = b) (k : b < c) : a < c := h ▸ k
/-- The loops' heads. -/
def Odd1 (A B : Nat) : Prop := A % 2 = 1 ∨ B % 2 = 1

set_option maxRecDepth 100000 in
set_option maxHeartbeats 8000000 in
theorem gcd_u (A0 B0 : Nat) (hA : A0 < 340282366920938463463374607431768211456) (hB : B0 < 340282366920938463463374607431768211456) (hA0 : 0 < A0) (hB0 : 0 < B0) (w : World) :
    Calls Tryd.prog 51 #[uv A0, uv B0] w fun e w' => e = .returned (uv (Nat.gcd A0 B0)) ∧ Below w.heap.size w w' := by
  have G0 : Hid (GcH (Nat.gcd A0 B0) A0 B0 0 ∧ 0 < A0) := Lib.hid ⟨⟨by simp, hA, hB, hB0⟩, hA0⟩
  have GG : Hid (Nat.gcd A0 B0 < 340282366920938463463374607431768211456) := Lib.hid (by have := Nat.gcd_le_left B0 hA0; omega)
  have ne := Lib.hid (ne_parts hA0)
  clear hA hB hB0 hA0
  generalize Nat.gcd A0 B0 = G at *
  go_enter Tryd.func51, Tryd.ntmps51
  go_upto_region 1 with fail
  go_cut [8] (fun s8 wx => s8 = .bool false ∧ Below w.heap.size w wx ∧ At wx (w.heap.size) 69 #[.int .u64 (hiN A0 : Int), .int .u64 (loN A0 : Int)] ∧ At wx (w.heap.size + 1) 69 #[.int .u64 (hiN B0 : Int), .int .u64 (loN B0 : Int)] ∧ At wx (w.heap.size + 1 + 1) 69 #[.int .u64 0, .int .u64 0])
  case first =>
    rcases ne.out with ne | ⟨ne, ne'⟩
    all_goals (go_wp2_with fail; go_meet; exact ⟨rfl, (by repeat (first | with_reducible exact Below.refl _ _ | with_reducible refine below_al ?_ _ | with_reducible refine below_drew ?_ | with_reducible refine below_drewN ?_ _)), by (repeat (first | (with_reducible apply At.new'; (focus (simp; done))) | with_reducible apply At.al | with_reducible apply At.drw | with_reducible apply At.dr)), by (repeat (first | (with_reducible apply At.new'; (focus (simp; done))) | with_reducible apply At.al | with_reducible apply At.drw | with_reducible apply At.dr)), by (repeat (first | (with_reducible apply At.new'; (focus (simp; done))) | with_reducible apply At.al | with_reducible apply At.drw | with_reducible apply At.dr))⟩)
  case rest =>
    obtain ⟨rfl, HB, ka, kb, ko⟩ := hcut
    go_upto_block 0 with fail
    go_cut [5] (fun t wx => ∃ A B k : Nat, t = .int .i64 (k : Int) ∧ Hid (GcH G A B k ∧ 0 < A ∧ Odd1 A B) ∧ Below w.heap.size w wx ∧ At wx (w.heap.size) 69 #[.int .u64 (hiN A : Int), .int .u64 (loN A : Int)] ∧ At wx (w.heap.size + 1) 69 #[.int .u64 (hiN B : Int), .int .u64 (loN B : Int)] ∧ At wx (w.heap.size + 1 + 1) 69 #[.int .u64 0, .int .u64 0])
    case first =>
      go_wp2_with fail
      go_loopw [5] (fun t wr => ∃ A B k : Nat, t = .int .i64 (k : Int) ∧ Hid (GcH G A B k ∧ 0 < A) ∧ Below w.heap.size w wr ∧ At wr (w.heap.size) 69 #[.int .u64 (hiN A : Int), .int .u64 (loN A : Int)] ∧ At wr (w.heap.size + 1) 69 #[.int .u64 (hiN B : Int), .int .u64 (loN B : Int)] ∧ At wr (w.heap.size + 1 + 1) 69 #[.int .u64 0, .int .u64 0]) (fun _ wr => uAt wr w.heap.size)
      case atStart => exact ⟨A0, B0, 0, rfl, G0, HB, ka, kb, ko⟩
      case round =>
        obtain ⟨A, B, k, rfl, HG, HB, ka, kb, ko⟩ := hrel
        have hk : k < 128 := two_le HG.out.1 GG.out
        have la := ka.lt
        obtain ⟨ca0, ca1, fa0, fa1⟩ := ka.two
        have lb := kb.lt
        obtain ⟨cb0, cb1, fb0, fb1⟩ := kb.two
        have lo := ko.lt
        obtain ⟨co0, co1, fo0, fo1⟩ := ko.two
        have ua := Lib.hid ka.u
        have bA := bit_of A
        have bB := bit_of B
        by_cases both : A % 2 = 0 ∧ B % 2 = 0
        · obtain ⟨ea, eb⟩ := both
          have HA := Lib.hid (half_u A HG.out.1.a)
          have HB2 := Lib.hid (half_u B HG.out.1.b)
          have HG' := Lib.hid (And.intro (HG.out.1.both ea eb) (by have := HG.out.2; omega : 0 < A / 2))
          have dec := Lib.hid (by have := HG.out.2; omega : A / 2 < A)
          replace bA : bits .and .u64 (loN A : Int) 1 = 0 := by rw [bA, ea]; rfl
          replace bB : bits .and .u64 (loN B : Int) 1 = 0 := by rw [bB, eb]; rfl
          have ek : Hid (IntKind.i64.wrap ((k : Int) + 1) = ((k + 1 : Nat) : Int)) := Lib.hid (by rw [IntWalk.i64_in _ (by omega)]; omega)
          clear ea eb HG
          go_wp2_with fail
          go_region_with (first | (go_at_call 70; with_reducible refine (HA.out _).mono ?_; rintro e v ⟨rfl, hb⟩; replace ka : At v (w.heap.size) 69 #[.int .u64 (hiN A : Int), .int .u64 (loN A : Int)] := At.bel (by repeat (first | with_reducible assumption | with_reducible apply At.put0 | with_reducible apply At.put1 | with_reducible refine At.far ?_ (by dsimp only; omega) _ | with_reducible apply At.al | with_reducible apply At.drw | with_reducible apply At.dr)) hb; replace kb : At v (w.heap.size + 1) 69 #[.int .u64 (hiN B : Int), .int .u64 (loN B : Int)] := At.bel (by repeat (first | with_reducible assumption | with_reducible apply At.put0 | with_reducible apply At.put1 | with_reducible refine At.far ?_ (by dsimp only; omega) _ | with_reducible apply At.al | with_reducible apply At.drw | with_reducible apply At.dr)) hb; replace ko : At v (w.heap.size + 1 + 1) 69 #[.int .u64 0, .int .u64 0] := At.bel (by repeat (first | with_reducible assumption | with_reducible apply At.put0 | with_reducible apply At.put1 | with_reducible refine At.far ?_ (by dsimp only; omega) _ | with_reducible apply At.al | with_reducible apply At.drw | with_reducible apply At.dr)) hb; replace HB : Below w.heap.size w v := below_then (by repeat (first | with_reducible assumption | with_reducible exact Below.refl _ _ | with_reducible refine below_al ?_ _ | with_reducible refine below_drew ?_ | with_reducible refine below_drewN ?_ _ | with_reducible refine below_set ?_ (by dsimp only; omega) _)) hb; clear hb; clear la ca0 ca1 fa0 fa1 lb cb0 cb1 fb0 fb1 lo co0 co1 fo0 fo1; have la := ka.lt; obtain ⟨ca0, ca1, fa0, fa1⟩ := ka.two; have lb := kb.lt; obtain ⟨cb0, cb1, fb0, fb1⟩ := kb.two; have lo := ko.lt; obtain ⟨co0, co1, fo0, fo1⟩ := ko.two) | (go_at_call 70; with_reducible refine (HB2.out _).mono ?_; rintro e v ⟨rfl, hb⟩; replace ka : At v (w.heap.size) 69 #[.int .u64 (hiN A : Int), .int .u64 (loN A : Int)] := At.bel (by repeat (first | with_reducible assumption | with_reducible apply At.put0 | with_reducible apply At.put1 | with_reducible refine At.far ?_ (by dsimp only; omega) _ | with_reducible apply At.al | with_reducible apply At.drw | with_reducible apply At.dr)) hb; replace kb : At v (w.heap.size + 1) 69 #[.int .u64 (hiN B : Int), .int .u64 (loN B : Int)] := At.bel (by repeat (first | with_reducible assumption | with_reducible apply At.put0 | with_reducible apply At.put1 | with_reducible refine At.far ?_ (by dsimp only; omega) _ | with_reducible apply At.al | with_reducible apply At.drw | with_reducible apply At.dr)) hb; replace ko : At v (w.heap.size + 1 + 1) 69 #[.int .u64 0, .int .u64 0] := At.bel (by repeat (first | with_reducible assumption | with_reducible apply At.put0 | with_reducible apply At.put1 | with_reducible refine At.far ?_ (by dsimp only; omega) _ | with_reducible apply At.al | with_reducible apply At.drw | with_reducible apply At.dr)) hb; replace HB : Below w.heap.size w v := below_then (by repeat (first | with_reducible assumption | with_reducible exact Below.refl _ _ | with_reducible refine below_al ?_ _ | with_reducible refine below_drew ?_ | with_reducible refine below_drewN ?_ _ | with_reducible refine below_set ?_ (by dsimp only; omega) _)) hb; clear hb; clear la ca0 ca1 fa0 fa1 lb cb0 cb1 fb0 fb1 lo co0 co1 fo0 fo1; have la := ka.lt; obtain ⟨ca0, ca1, fa0, fa1⟩ := ka.two; have lb := kb.lt; obtain ⟨cb0, cb1, fb0, fb1⟩ := kb.two; have lo := ko.lt; obtain ⟨co0, co1, fo0, fo1⟩ := ko.two))
          all_goals
            go_wp2_with fail
            go_roundw
            case rel => first | exact ⟨A / 2, B / 2, k + 1, by rw [ek.out], HG', (by repeat (first | with_reducible assumption | with_reducible exact Below.refl _ _ | with_reducible refine below_al ?_ _ | with_reducible refine below_drew ?_ | with_reducible refine below_drewN ?_ _ | with_reducible refine below_set ?_ (by dsimp only; omega) _)), (by repeat (first | with_reducible assumption | with_reducible apply At.put0 | with_reducible apply At.put1 | with_reducible refine At.far ?_ (by dsimp only; omega) _ | with_reducible apply At.al | with_reducible apply At.drw | with_reducible apply At.dr)), (by repeat (first | with_reducible assumption | with_reducible apply At.put0 | with_reducible apply At.put1 | with_reducible refine At.far ?_ (by dsimp only; omega) _ | with_reducible apply At.al | with_reducible apply At.drw | with_reducible apply At.dr)), (by repeat (first | with_reducible assumption | with_reducible apply At.put0 | with_reducible apply At.put1 | with_reducible refine At.far ?_ (by dsimp only; omega) _ | with_reducible apply At.al | with_reducible apply At.drw | with_reducible apply At.dr))⟩ | ((repeat apply Exists.intro); exact ⟨⟨A / 2, B / 2, k + 1, by rw [ek.out], HG', (by repeat (first | with_reducible assumption | with_reducible exact Below.refl _ _ | with_reducible refine below_al ?_ _ | with_reducible refine below_drew ?_ | with_reducible refine below_drewN ?_ _ | with_reducible refine below_set ?_ (by dsimp only; omega) _)), (by repeat (first | with_reducible assumption | with_reducible apply At.put0 | with_reducible apply At.put1 | with_reducible refine At.far ?_ (by dsimp only; omega) _ | with_reducible apply At.al | with_reducible apply At.drw | with_reducible apply At.dr)), (by repeat (first | with_reducible assumption | with_reducible apply At.put0 | with_reducible apply At.put1 | with_reducible refine At.far ?_ (by dsimp only; omega) _ | with_reducible apply At.al | with_reducible apply At.drw | with_reducible apply At.dr)), (by repeat (first | with_reducible assumption | with_reducible apply At.put0 | with_reducible apply At.put1 | with_reducible refine At.far ?_ (by dsimp only; omega) _ | with_reducible apply At.al | with_reducible apply At.drw | with_reducible apply At.dr))⟩, rfl⟩)
            case measure =>
              have m2 := ua.out
              have m3 := dec.out
              rw [m2]
              refine lt_of_eq (At.u (A := A / 2) (t := 69) ?_) m3
              repeat (first | with_reducible assumption | with_reducible apply At.put0 | with_reducible apply At.put1 | with_reducible refine At.far ?_ (by dsimp only; omega) _ | with_reducible apply At.al | with_reducible apply At.drw | with_reducible apply At.dr)
        · have HO := Lib.hid (And.intro HG.out.1 (And.intro HG.out.2 (by unfold Odd1; omega : Odd1 A B)))
          rcases Nat.mod_two_eq_zero_or_one A with ea | ea
          · have eb : B % 2 = 1 := by omega
            replace bA : bits .and .u64 (loN A : Int) 1 = 0 := by rw [bA, ea]; rfl
            replace bB : bits .and .u64 (loN B : Int) 1 = 1 := by rw [bB, eb]; rfl
            clear ea eb both
            go_wp2_with fail
            go_meet
            exact ⟨A, B, k, rfl, HO, HB, ka, kb, ko⟩
          · replace bA : bits .and .u64 (loN A : Int) 1 = 1 := by rw [bA, ea]; rfl
            clear ea both bB
            go_wp2_with fail
            go_meet
            exact ⟨A, B, k, rfl, HO, HB, ka, kb, ko⟩
    case rest =>
      obtain ⟨A1, B1, k, rfl, H1, HB, ka, kb, ko⟩ := hcut
      have hk : k < 128 := two_le H1.out.1 GG.out
      have H1' : Hid (GcH G A1 B1 k ∧ Odd1 A1 B1) := Lib.hid ⟨H1.out.1, H1.out.2.2⟩
      clear H1 G0
      go_upto_block 2 with fail
      go_cut [26] (fun _ wx => ∃ B : Nat, Hid (2 ^ k * B = G) ∧ Below w.heap.size w wx ∧ At wx (w.heap.size + 1) 69 #[.int .u64 (hiN B : Int), .int .u64 (loN B : Int)] ∧ At wx (w.heap.size + 1 + 1) 69 #[.int .u64 0, .int .u64 0])
      case first =>
        go_wp2_with fail
        go_loopw [26] (fun _ wr => ∃ A B : Nat, Hid (GcH G A B k ∧ Odd1 A B) ∧ Below w.heap.size w wr ∧ At wr (w.heap.size) 69 #[.int .u64 (hiN A : Int), .int .u64 (loN A : Int)] ∧ At wr (w.heap.size + 1) 69 #[.int .u64 (hiN B : Int), .int .u64 (loN B : Int)] ∧ At wr (w.heap.size + 1 + 1) 69 #[.int .u64 0, .int .u64 0]) (fun _ wr => uAt wr w.heap.size + uAt wr (w.heap.size + 1))
        case atStart => exact ⟨A1, B1, H1', HB, ka, kb, ko⟩
        case round =>
          obtain ⟨A, B, HG, HB, ka, kb, ko⟩ := hrel
          obtain ⟨wo, rfl⟩ : ∃ wo : World, wo = wr := ⟨_, rfl⟩
          have ua := Lib.hid (And.intro ka.u kb.u)
          by_cases z : A = 0
          · subst z
            have HZ := Lib.hid HG.out.1.fin
            have ka0 : At wo w.heap.size 69 #[.int .u64 0, .int .u64 0] := ka
            clear ka
            rename At wo w.heap.size 69 #[.int .u64 0, .int .u64 0] => ka
            have la := ka.lt
            obtain ⟨ca0, ca1, fa0, fa1⟩ := ka.two
            have lb := kb.lt
            obtain ⟨cb0, cb1, fb0, fb1⟩ := kb.two
            have lo := ko.lt
            obtain ⟨co0, co1, fo0, fo1⟩ := ko.two
            go_wp2_with fail
            go_meet
            exact ⟨B, HZ, HB, kb, ko⟩
          · have ne := Lib.hid (ne_parts (Nat.pos_of_ne_zero z))
            have pos := Lib.hid (Nat.pos_of_ne_zero z)
            clear z
            go_upto_region 6 with fail
            go_cut [28] (fun s wx => s = .bool true ∧ Below w.heap.size w wx ∧ At wx (w.heap.size) 69 #[.int .u64 (hiN A : Int), .int .u64 (loN A : Int)] ∧ At wx (w.heap.size + 1) 69 #[.int .u64 (hiN B : Int), .int .u64 (loN B : Int)] ∧ At wx (w.heap.size + 1 + 1) 69 #[.int .u64 0, .int .u64 0])
            case first =>
              have la := ka.lt
              obtain ⟨ca0, ca1, fa0, fa1⟩ := ka.two
              have lb := kb.lt
              obtain ⟨cb0, cb1, fb0, fb1⟩ := kb.two
              have lo := ko.lt
              obtain ⟨co0, co1, fo0, fo1⟩ := ko.two
              rcases ne.out with ne | ⟨ne, ne'⟩
              all_goals (go_wp2_with fail; go_meet; exact ⟨rfl, HB, ka, kb, ko⟩)
            case rest =>
              clear ka kb ko HB
              obtain ⟨rfl, HB, ka, kb, ko⟩ := hcut
              go_wp2_with fail
              go_loopw [29] (fun _ wr => ∃ X : Nat, Hid (GcH G X B k ∧ Odd1 X B ∧ 0 < X ∧ X ≤ A) ∧ Below w.heap.size w wr ∧ At wr (w.heap.size) 69 #[.int .u64 (hiN X : Int), .int .u64 (loN X : Int)] ∧ At wr (w.heap.size + 1) 69 #[.int .u64 (hiN B : Int), .int .u64 (loN B : Int)] ∧ At wr (w.heap.size + 1 + 1) 69 #[.int .u64 0, .int .u64 0]) (fun _ wr => uAt wr w.heap.size)
              case atStart => exact ⟨A, Lib.hid ⟨HG.out.1, HG.out.2, pos.out, Nat.le_refl _⟩, HB, ka, kb, ko⟩
              case round =>
                clear ka kb ko HB
                obtain ⟨X, HX, HB, ka, kb, ko⟩ := hrel
                have la := ka.lt
                obtain ⟨ca0, ca1, fa0, fa1⟩ := ka.two
                have lb := kb.lt
                obtain ⟨cb0, cb1, fb0, fb1⟩ := kb.two
                have lo := ko.lt
                obtain ⟨co0, co1, fo0, fo1⟩ := ko.two
                have ux := Lib.hid ka.u
                have bA := bit_of X
                rcases Nat.mod_two_eq_zero_or_one X with ea | ea
                · have eb : B % 2 = 1 := by have := HX.out.2.1; unfold Odd1 at this; omega
                  have HH := Lib.hid (half_u X HX.out.1.a)
                  have HX' := Lib.hid (And.intro (HX.out.1.left ea eb) (And.intro (.inr eb : Odd1 (X / 2) B) (And.intro (by have := HX.out.2.2.1; omega : 0 < X / 2) (by have := HX.out.2.2; omega : X / 2 ≤ A))))
                  have dec := Lib.hid (by have := HX.out.2.2.1; omega : X / 2 < X)
                  replace bA : bits .and .u64 (loN X : Int) 1 = 0 := by rw [bA, ea]; rfl
                  clear ea eb HX
                  go_wp2_with fail
                  refine (HH.out _).mono ?_
                  rintro e v ⟨rfl, hb⟩
                  replace ka : At v (w.heap.size) 69 #[.int .u64 (hiN X : Int), .int .u64 (loN X : Int)] := At.bel (by repeat (first | with_reducible assumption | with_reducible apply At.put0 | with_reducible apply At.put1 | with_reducible refine At.far ?_ (by dsimp only; omega) _ | with_reducible apply At.al | with_reducible apply At.drw | with_reducible apply At.dr)) hb
                  replace kb : At v (w.heap.size + 1) 69 #[.int .u64 (hiN B : Int), .int .u64 (loN B : Int)] := At.bel (by repeat (first | with_reducible assumption | with_reducible apply At.put0 | with_reducible apply At.put1 | with_reducible refine At.far ?_ (by dsimp only; omega) _ | with_reducible apply At.al | with_reducible apply At.drw | with_reducible apply At.dr)) hb
                  replace ko : At v (w.heap.size + 1 + 1) 69 #[.int .u64 0, .int .u64 0] := At.bel (by repeat (first | with_reducible assumption | with_reducible apply At.put0 | with_reducible apply At.put1 | with_reducible refine At.far ?_ (by dsimp only; omega) _ | with_reducible apply At.al | with_reducible apply At.drw | with_reducible apply At.dr)) hb
                  replace HB : Below w.heap.size w v := below_then (by repeat (first | with_reducible assumption | with_reducible exact Below.refl _ _ | with_reducible refine below_al ?_ _ | with_reducible refine below_drew ?_ | with_reducible refine below_drewN ?_ _ | with_reducible refine below_set ?_ (by dsimp only; omega) _)) hb
                  clear hb
                  clear la ca0 ca1 fa0 fa1 lb cb0 cb1 fb0 fb1 lo co0 co1 fo0 fo1
                  have la := ka.lt
                  obtain ⟨ca0, ca1, fa0, fa1⟩ := ka.two
                  have lb := kb.lt
                  obtain ⟨cb0, cb1, fb0, fb1⟩ := kb.two
                  have lo := ko.lt
                  obtain ⟨co0, co1, fo0, fo1⟩ := ko.two
                  go_wp2_with fail
                  go_roundw
                  case rel => first | exact ⟨X / 2, HX', (by repeat (first | with_reducible assumption | with_reducible exact Below.refl _ _ | with_reducible refine below_al ?_ _ | with_reducible refine below_drew ?_ | with_reducible refine below_drewN ?_ _ | with_reducible refine below_set ?_ (by dsimp only; omega) _)), (by repeat (first | with_reducible assumption | with_reducible apply At.put0 | with_reducible apply At.put1 | with_reducible refine At.far ?_ (by dsimp only; omega) _ | with_reducible apply At.al | with_reducible apply At.drw | with_reducible apply At.dr)), (by repeat (first | with_reducible assumption | with_reducible apply At.put0 | with_reducible apply At.put1 | with_reducible refine At.far ?_ (by dsimp only; omega) _ | with_reducible apply At.al | with_reducible apply At.drw | with_reducible apply At.dr)), (by repeat (first | with_reducible assumption | with_reducible apply At.put0 | with_reducible apply At.put1 | with_reducible refine At.far ?_ (by dsimp only; omega) _ | with_reducible apply At.al | with_reducible apply At.drw | with_reducible apply At.dr))⟩ | ((repeat apply Exists.intro); exact ⟨⟨X / 2, HX', (by repeat (first | with_reducible assumption | with_reducible exact Below.refl _ _ | with_reducible refine below_al ?_ _ | with_reducible refine below_drew ?_ | with_reducible refine below_drewN ?_ _ | with_reducible refine below_set ?_ (by dsimp only; omega) _)), (by repeat (first | with_reducible assumption | with_reducible apply At.put0 | with_reducible apply At.put1 | with_reducible refine At.far ?_ (by dsimp only; omega) _ | with_reducible apply At.al | with_reducible apply At.drw | with_reducible apply At.dr)), (by repeat (first | with_reducible assumption | with_reducible apply At.put0 | with_reducible apply At.put1 | with_reducible refine At.far ?_ (by dsimp only; omega) _ | with_reducible apply At.al | with_reducible apply At.drw | with_reducible apply At.dr)), (by repeat (first | with_reducible assumption | with_reducible apply At.put0 | with_reducible apply At.put1 | with_reducible refine At.far ?_ (by dsimp only; omega) _ | with_reducible apply At.al | with_reducible apply At.drw | with_reducible apply At.dr))⟩, rfl⟩)
                  case measure =>
                    have m2 := ux.out
                    have m3 := dec.out
                    rw [m2]
                    refine lt_of_eq (At.u (A := X / 2) (t := 69) ?_) m3
                    repeat (first | with_reducible assumption | with_reducible apply At.put0 | with_reducible apply At.put1 | with_reducible refine At.far ?_ (by dsimp only; omega) _ | with_reducible apply At.al | with_reducible apply At.drw | with_reducible apply At.dr)
                · replace bA : bits .and .u64 (loN X : Int) 1 = 1 := by rw [bA, ea]; rfl
                  have ex := Lib.hid ea
                  clear ea ux
                  go_wp2_with fail
                  go_loopw [35] (fun _ wr => ∃ Y : Nat, Hid (GcH G X Y k ∧ 0 < Y ∧ Y ≤ B) ∧ Below w.heap.size w wr ∧ At wr (w.heap.size) 69 #[.int .u64 (hiN X : Int), .int .u64 (loN X : Int)] ∧ At wr (w.heap.size + 1) 69 #[.int .u64 (hiN Y : Int), .int .u64 (loN Y : Int)] ∧ At wr (w.heap.size + 1 + 1) 69 #[.int .u64 0, .int .u64 0]) (fun _ wr => uAt wr (w.heap.size + 1))
                  case atStart => exact ⟨B, Lib.hid ⟨HX.out.1, HX.out.1.b0, Nat.le_refl _⟩, HB, ka, kb, ko⟩
                  case round =>
                    clear ka kb ko HB
                    clear la ca0 ca1 fa0 fa1 lb cb0 cb1 fb0 fb1 lo co0 co1 fo0 fo1
                    obtain ⟨Y, HY, HB, ka, kb, ko⟩ := hrel
                    have la := ka.lt
                    obtain ⟨ca0, ca1, fa0, fa1⟩ := ka.two
                    have lb := kb.lt
                    obtain ⟨cb0, cb1, fb0, fb1⟩ := kb.two
                    have lo := ko.lt
                    obtain ⟨co0, co1, fo0, fo1⟩ := ko.two
                    have uy := Lib.hid kb.u
                    have bB := bit_of Y
                    rcases Nat.mod_two_eq_zero_or_one Y with eb | eb
                    · have HH := Lib.hid (half_u Y HY.out.1.b)
                      have HY' := Lib.hid (And.intro (HY.out.1.right ex.out eb) (And.intro (by have := HY.out.2.1; omega : 0 < Y / 2) (by have := HY.out.2; omega : Y / 2 ≤ B)))
                      have dec := Lib.hid (by have := HY.out.2.1; omega : Y / 2 < Y)
                      replace bB : bits .and .u64 (loN Y : Int) 1 = 0 := by rw [bB, eb]; rfl
                      clear eb HY
                      go_wp2_with fail
                      refine (HH.out _).mono ?_
                      rintro e v ⟨rfl, hb⟩
                      replace ka : At v (w.heap.size) 69 #[.int .u64 (hiN X : Int), .int .u64 (loN X : Int)] := At.bel (by repeat (first | with_reducible assumption | with_reducible apply At.put0 | with_reducible apply At.put1 | with_reducible refine At.far ?_ (by dsimp only; omega) _ | with_reducible apply At.al | with_reducible apply At.drw | with_reducible apply At.dr)) hb
                      replace kb : At v (w.heap.size + 1) 69 #[.int .u64 (hiN Y : Int), .int .u64 (loN Y : Int)] := At.bel (by repeat (first | with_reducible assumption | with_reducible apply At.put0 | with_reducible apply At.put1 | with_reducible refine At.far ?_ (by dsimp only; omega) _ | with_reducible apply At.al | with_reducible apply At.drw | with_reducible apply At.dr)) hb
                      replace ko : At v (w.heap.size + 1 + 1) 69 #[.int .u64 0, .int .u64 0] := At.bel (by repeat (first | with_reducible assumption | with_reducible apply At.put0 | with_reducible apply At.put1 | with_reducible refine At.far ?_ (by dsimp only; omega) _ | with_reducible apply At.al | with_reducible apply At.drw | with_reducible apply At.dr)) hb
                      replace HB : Below w.heap.size w v := below_then (by repeat (first | with_reducible assumption | with_reducible exact Below.refl _ _ | with_reducible refine below_al ?_ _ | with_reducible refine below_drew ?_ | with_reducible refine below_drewN ?_ _ | with_reducible refine below_set ?_ (by dsimp only; omega) _)) hb
                      clear hb
                      clear la ca0 ca1 fa0 fa1 lb cb0 cb1 fb0 fb1 lo co0 co1 fo0 fo1
                      have la := ka.lt
                      obtain ⟨ca0, ca1, fa0, fa1⟩ := ka.two
                      have lb := kb.lt
                      obtain ⟨cb0, cb1, fb0, fb1⟩ := kb.two
                      have lo := ko.lt
                      obtain ⟨co0, co1, fo0, fo1⟩ := ko.two
                      go_wp2_with fail
                      go_roundw
                      case rel => first | exact ⟨Y / 2, HY', (by repeat (first | with_reducible assumption | with_reducible exact Below.refl _ _ | with_reducible refine below_al ?_ _ | with_reducible refine below_drew ?_ | with_reducible refine below_drewN ?_ _ | with_reducible refine below_set ?_ (by dsimp only; omega) _)), (by repeat (first | with_reducible assumption | with_reducible apply At.put0 | with_reducible apply At.put1 | with_reducible refine At.far ?_ (by dsimp only; omega) _ | with_reducible apply At.al | with_reducible apply At.drw | with_reducible apply At.dr)), (by repeat (first | with_reducible assumption | with_reducible apply At.put0 | with_reducible apply At.put1 | with_reducible refine At.far ?_ (by dsimp only; omega) _ | with_reducible apply At.al | with_reducible apply At.drw | with_reducible apply At.dr)), (by repeat (first | with_reducible assumption | with_reducible apply At.put0 | with_reducible apply At.put1 | with_reducible refine At.far ?_ (by dsimp only; omega) _ | with_reducible apply At.al | with_reducible apply At.drw | with_reducible apply At.dr))⟩ | ((repeat apply Exists.intro); exact ⟨⟨Y / 2, HY', (by repeat (first | with_reducible assumption | with_reducible exact Below.refl _ _ | with_reducible refine below_al ?_ _ | with_reducible refine below_drew ?_ | with_reducible refine below_drewN ?_ _ | with_reducible refine below_set ?_ (by dsimp only; omega) _)), (by repeat (first | with_reducible assumption | with_reducible apply At.put0 | with_reducible apply At.put1 | with_reducible refine At.far ?_ (by dsimp only; omega) _ | with_reducible apply At.al | with_reducible apply At.drw | with_reducible apply At.dr)), (by repeat (first | with_reducible assumption | with_reducible apply At.put0 | with_reducible apply At.put1 | with_reducible refine At.far ?_ (by dsimp only; omega) _ | with_reducible apply At.al | with_reducible apply At.drw | with_reducible apply At.dr)), (by repeat (first | with_reducible assumption | with_reducible apply At.put0 | with_reducible apply At.put1 | with_reducible refine At.far ?_ (by dsimp only; omega) _ | with_reducible apply At.al | with_reducible apply At.drw | with_reducible apply At.dr))⟩, rfl⟩)
                      case measure =>
                        have m2 := uy.out
                        have m3 := dec.out
                        rw [m2]
                        refine lt_of_eq (At.u (A := Y / 2) (t := 69) ?_) m3
                        repeat (first | with_reducible assumption | with_reducible apply At.put0 | with_reducible apply At.put1 | with_reducible refine At.far ?_ (by dsimp only; omega) _ | with_reducible apply At.al | with_reducible apply At.drw | with_reducible apply At.dr)
                    · replace bB : bits .and .u64 (loN Y : Int) 1 = 1 := by rw [bB, eb]; rfl
                      have ey := Lib.hid eb
                      clear eb uy
                      by_cases lt : X < Y
                      · have HL : Hid (∀ w : World, Calls Tryd.prog 55 #[uv X, uv Y] w fun e w' => e = .returned (.bool true) ∧ Below w.heap.size w w') := Lib.hid (fun w => by
                          have := less_u X Y w
                          rwa [decide_eq_true lt] at this)
                        have HM := Lib.hid (minus_u Y X HY.out.1.b (Nat.le_of_lt lt))
                        have HG' := Lib.hid (And.intro ((HY.out.1.swap HX.out.2.2.1).minus (Nat.le_of_lt lt)) (.inr ex.out : Odd1 (Y - X) X))
                        have dec := Lib.hid (by have := HY.out.2; have := pos.out; omega : Y - X + X < A + B)
                        clear lt HY HX
                        go_wp2_with fail
                        refine (HL.out _).mono ?_
                        rintro e v ⟨rfl, hb⟩
                        replace ka : At v (w.heap.size) 69 #[.int .u64 (hiN X : Int), .int .u64 (loN X : Int)] := At.bel (by repeat (first | with_reducible assumption | with_reducible apply At.put0 | with_reducible apply At.put1 | with_reducible refine At.far ?_ (by dsimp only; omega) _ | with_reducible apply At.al | with_reducible apply At.drw | with_reducible apply At.dr)) hb
                        replace kb : At v (w.heap.size + 1) 69 #[.int .u64 (hiN Y : Int), .int .u64 (loN Y : Int)] := At.bel (by repeat (first | with_reducible assumption | with_reducible apply At.put0 | with_reducible apply At.put1 | with_reducible refine At.far ?_ (by dsimp only; omega) _ | with_reducible apply At.al | with_reducible apply At.drw | with_reducible apply At.dr)) hb
                        replace ko : At v (w.heap.size + 1 + 1) 69 #[.int .u64 0, .int .u64 0] := At.bel (by repeat (first | with_reducible assumption | with_reducible apply At.put0 | with_reducible apply At.put1 | with_reducible refine At.far ?_ (by dsimp only; omega) _ | with_reducible apply At.al | with_reducible apply At.drw | with_reducible apply At.dr)) hb
                        replace HB : Below w.heap.size w v := below_then (by repeat (first | with_reducible assumption | with_reducible exact Below.refl _ _ | with_reducible refine below_al ?_ _ | with_reducible refine below_drew ?_ | with_reducible refine below_drewN ?_ _ | with_reducible refine below_set ?_ (by dsimp only; omega) _)) hb
                        clear hb
                        clear la ca0 ca1 fa0 fa1 lb cb0 cb1 fb0 fb1 lo co0 co1 fo0 fo1
                        have la := ka.lt
                        obtain ⟨ca0, ca1, fa0, fa1⟩ := ka.two
                        have lb := kb.lt
                        obtain ⟨cb0, cb1, fb0, fb1⟩ := kb.two
                        have lo := ko.lt
                        obtain ⟨co0, co1, fo0, fo1⟩ := ko.two
                        go_wp2_with fail
                        refine (HM.out _).mono ?_
                        rintro e v2 ⟨rfl, hb⟩
                        replace ka : At v2 (w.heap.size) 69 #[.int .u64 (hiN Y : Int), .int .u64 (loN Y : Int)] := At.bel (by repeat (first | with_reducible assumption | with_reducible apply At.put0 | with_reducible apply At.put1 | with_reducible refine At.far ?_ (by dsimp only; omega) _ | with_reducible apply At.al | with_reducible apply At.drw | with_reducible apply At.dr)) hb
                        replace kb : At v2 (w.heap.size + 1) 69 #[.int .u64 (hiN X : Int), .int .u64 (loN X : Int)] := At.bel (by repeat (first | with_reducible assumption | with_reducible apply At.put0 | with_reducible apply At.put1 | with_reducible refine At.far ?_ (by dsimp only; omega) _ | with_reducible apply At.al | with_reducible apply At.drw | with_reducible apply At.dr)) hb
                        replace ko : At v2 (w.heap.size + 1 + 1) 69 #[.int .u64 0, .int .u64 0] := At.bel (by repeat (first | with_reducible assumption | with_reducible apply At.put0 | with_reducible apply At.put1 | with_reducible refine At.far ?_ (by dsimp only; omega) _ | with_reducible apply At.al | with_reducible apply At.drw | with_reducible apply At.dr)) hb
                        replace HB : Below w.heap.size w v2 := below_then (by repeat (first | with_reducible assumption | with_reducible exact Below.refl _ _ | with_reducible refine below_al ?_ _ | with_reducible refine below_drew ?_ | with_reducible refine below_drewN ?_ _ | with_reducible refine below_set ?_ (by dsimp only; omega) _)) hb
                        clear hb
                        clear la ca0 ca1 fa0 fa1 lb cb0 cb1 fb0 fb1 lo co0 co1 fo0 fo1
                        have la := ka.lt
                        obtain ⟨ca0, ca1, fa0, fa1⟩ := ka.two
                        have lb := kb.lt
                        obtain ⟨cb0, cb1, fb0, fb1⟩ := kb.two
                        have lo := ko.lt
                        obtain ⟨co0, co1, fo0, fo1⟩ := ko.two
                        go_wp2_with fail
                        go_roundw
                        case rel => first | exact ⟨Y - X, X, HG', (by repeat (first | with_reducible assumption | with_reducible exact Below.refl _ _ | with_reducible refine below_al ?_ _ | with_reducible refine below_drew ?_ | with_reducible refine below_drewN ?_ _ | with_reducible refine below_set ?_ (by dsimp only; omega) _)), (by repeat (first | with_reducible assumption | with_reducible apply At.put0 | with_reducible apply At.put1 | with_reducible refine At.far ?_ (by dsimp only; omega) _ | with_reducible apply At.al | with_reducible apply At.drw | with_reducible apply At.dr)), (by repeat (first | with_reducible assumption | with_reducible apply At.put0 | with_reducible apply At.put1 | with_reducible refine At.far ?_ (by dsimp only; omega) _ | with_reducible apply At.al | with_reducible apply At.drw | with_reducible apply At.dr)), (by repeat (first | with_reducible assumption | with_reducible apply At.put0 | with_reducible apply At.put1 | with_reducible refine At.far ?_ (by dsimp only; omega) _ | with_reducible apply At.al | with_reducible apply At.drw | with_reducible apply At.dr))⟩ | ((repeat apply Exists.intro); exact ⟨⟨Y - X, X, HG', (by repeat (first | with_reducible assumption | with_reducible exact Below.refl _ _ | with_reducible refine below_al ?_ _ | with_reducible refine below_drew ?_ | with_reducible refine below_drewN ?_ _ | with_reducible refine below_set ?_ (by dsimp only; omega) _)), (by repeat (first | with_reducible assumption | with_reducible apply At.put0 | with_reducible apply At.put1 | with_reducible refine At.far ?_ (by dsimp only; omega) _ | with_reducible apply At.al | with_reducible apply At.drw | with_reducible apply At.dr)), (by repeat (first | with_reducible assumption | with_reducible apply At.put0 | with_reducible apply At.put1 | with_reducible refine At.far ?_ (by dsimp only; omega) _ | with_reducible apply At.al | with_reducible apply At.drw | with_reducible apply At.dr)), (by repeat (first | with_reducible assumption | with_reducible apply At.put0 | with_reducible apply At.put1 | with_reducible refine At.far ?_ (by dsimp only; omega) _ | with_reducible apply At.al | with_reducible apply At.drw | with_reducible apply At.dr))⟩, rfl⟩)
                        case measure =>
                          have m2 := ua.out
                          have m3 := dec.out
                          rw [m2.1, m2.2]
                          refine lt_of_eq (congr (congrArg Nat.add (At.u (A := Y - X) (t := 69) ?_)) (At.u (A := X) (t := 69) ?_)) m3
                          all_goals repeat (first | with_reducible assumption | with_reducible apply At.put0 | with_reducible apply At.put1 | with_reducible refine At.far ?_ (by dsimp only; omega) _ | with_reducible apply At.al | with_reducible apply At.drw | with_reducible apply At.dr)
                      · have HL : Hid (∀ w : World, Calls Tryd.prog 55 #[uv X, uv Y] w fun e w' => e = .returned (.bool false) ∧ Below w.heap.size w w') := Lib.hid (fun w => by
                          have := less_u X Y w
                          rwa [decide_eq_false lt] at this)
                        have HM := Lib.hid (minus_u X Y HY.out.1.a (Nat.le_of_not_lt lt))
                        have HG' := Lib.hid (And.intro (HY.out.1.minus (Nat.le_of_not_lt lt)) (.inr ey.out : Odd1 (X - Y) Y))
                        have dec := Lib.hid (by have := HY.out.2; have := HX.out.2.2; omega : X - Y + Y < A + B)
                        clear lt HY HX
                        go_wp2_with fail
                        refine (HL.out _).mono ?_
                        rintro e v ⟨rfl, hb⟩
                        replace ka : At v (w.heap.size) 69 #[.int .u64 (hiN X : Int), .int .u64 (loN X : Int)] := At.bel (by repeat (first | with_reducible assumption | with_reducible apply At.put0 | with_reducible apply At.put1 | with_reducible refine At.far ?_ (by dsimp only; omega) _ | with_reducible apply At.al | with_reducible apply At.drw | with_reducible apply At.dr)) hb
                        replace kb : At v (w.heap.size + 1) 69 #[.int .u64 (hiN Y : Int), .int .u64 (loN Y : Int)] := At.bel (by repeat (first | with_reducible assumption | with_reducible apply At.put0 | with_reducible apply At.put1 | with_reducible refine At.far ?_ (by dsimp only; omega) _ | with_reducible apply At.al | with_reducible apply At.drw | with_reducible apply At.dr)) hb
                        replace ko : At v (w.heap.size + 1 + 1) 69 #[.int .u64 0, .int .u64 0] := At.bel (by repeat (first | with_reducible assumption | with_reducible apply At.put0 | with_reducible apply At.put1 | with_reducible refine At.far ?_ (by dsimp only; omega) _ | with_reducible apply At.al | with_reducible apply At.drw | with_reducible apply At.dr)) hb
                        replace HB : Below w.heap.size w v := below_then (by repeat (first | with_reducible assumption | with_reducible exact Below.refl _ _ | with_reducible refine below_al ?_ _ | with_reducible refine below_drew ?_ | with_reducible refine below_drewN ?_ _ | with_reducible refine below_set ?_ (by dsimp only; omega) _)) hb
                        clear hb
                        clear la ca0 ca1 fa0 fa1 lb cb0 cb1 fb0 fb1 lo co0 co1 fo0 fo1
                        have la := ka.lt
                        obtain ⟨ca0, ca1, fa0, fa1⟩ := ka.two
                        have lb := kb.lt
                        obtain ⟨cb0, cb1, fb0, fb1⟩ := kb.two
                        have lo := ko.lt
                        obtain ⟨co0, co1, fo0, fo1⟩ := ko.two
                        go_wp2_with fail
                        refine (HM.out _).mono ?_
                        rintro e v2 ⟨rfl, hb⟩
                        replace ka : At v2 (w.heap.size) 69 #[.int .u64 (hiN X : Int), .int .u64 (loN X : Int)] := At.bel (by repeat (first | with_reducible assumption | with_reducible apply At.put0 | with_reducible apply At.put1 | with_reducible refine At.far ?_ (by dsimp only; omega) _ | with_reducible apply At.al | with_reducible apply At.drw | with_reducible apply At.dr)) hb
                        replace kb : At v2 (w.heap.size + 1) 69 #[.int .u64 (hiN Y : Int), .int .u64 (loN Y : Int)] := At.bel (by repeat (first | with_reducible assumption | with_reducible apply At.put0 | with_reducible apply At.put1 | with_reducible refine At.far ?_ (by dsimp only; omega) _ | with_reducible apply At.al | with_reducible apply At.drw | with_reducible apply At.dr)) hb
                        replace ko : At v2 (w.heap.size + 1 + 1) 69 #[.int .u64 0, .int .u64 0] := At.bel (by repeat (first | with_reducible assumption | with_reducible apply At.put0 | with_reducible apply At.put1 | with_reducible refine At.far ?_ (by dsimp only; omega) _ | with_reducible apply At.al | with_reducible apply At.drw | with_reducible apply At.dr)) hb
                        replace HB : Below w.heap.size w v2 := below_then (by repeat (first | with_reducible assumption | with_reducible exact Below.refl _ _ | with_reducible refine below_al ?_ _ | with_reducible refine below_drew ?_ | with_reducible refine below_drewN ?_ _ | with_reducible refine below_set ?_ (by dsimp only; omega) _)) hb
                        clear hb
                        clear la ca0 ca1 fa0 fa1 lb cb0 cb1 fb0 fb1 lo co0 co1 fo0 fo1
                        have la := ka.lt
                        obtain ⟨ca0, ca1, fa0, fa1⟩ := ka.two
                        have lb := kb.lt
                        obtain ⟨cb0, cb1, fb0, fb1⟩ := kb.two
                        have lo := ko.lt
                        obtain ⟨co0, co1, fo0, fo1⟩ := ko.two
                        go_wp2_with fail
                        go_roundw
                        case rel => first | exact ⟨X - Y, Y, HG', (by repeat (first | with_reducible assumption | with_reducible exact Below.refl _ _ | with_reducible refine below_al ?_ _ | with_reducible refine below_drew ?_ | with_reducible refine below_drewN ?_ _ | with_reducible refine below_set ?_ (by dsimp only; omega) _)), (by repeat (first | with_reducible assumption | with_reducible apply At.put0 | with_reducible apply At.put1 | with_reducible refine At.far ?_ (by dsimp only; omega) _ | with_reducible apply At.al | with_reducible apply At.drw | with_reducible apply At.dr)), (by repeat (first | with_reducible assumption | with_reducible apply At.put0 | with_reducible apply At.put1 | with_reducible refine At.far ?_ (by dsimp only; omega) _ | with_reducible apply At.al | with_reducible apply At.drw | with_reducible apply At.dr)), (by repeat (first | with_reducible assumption | with_reducible apply At.put0 | with_reducible apply At.put1 | with_reducible refine At.far ?_ (by dsimp only; omega) _ | with_reducible apply At.al | with_reducible apply At.drw | with_reducible apply At.dr))⟩ | ((repeat apply Exists.intro); exact ⟨⟨X - Y, Y, HG', (by repeat (first | with_reducible assumption | with_reducible exact Below.refl _ _ | with_reducible refine below_al ?_ _ | with_reducible refine below_drew ?_ | with_reducible refine below_drewN ?_ _ | with_reducible refine below_set ?_ (by dsimp only; omega) _)), (by repeat (first | with_reducible assumption | with_reducible apply At.put0 | with_reducible apply At.put1 | with_reducible refine At.far ?_ (by dsimp only; omega) _ | with_reducible apply At.al | with_reducible apply At.drw | with_reducible apply At.dr)), (by repeat (first | with_reducible assumption | with_reducible apply At.put0 | with_reducible apply At.put1 | with_reducible refine At.far ?_ (by dsimp only; omega) _ | with_reducible apply At.al | with_reducible apply At.drw | with_reducible apply At.dr)), (by repeat (first | with_reducible assumption | with_reducible apply At.put0 | with_reducible apply At.put1 | with_reducible refine At.far ?_ (by dsimp only; omega) _ | with_reducible apply At.al | with_reducible apply At.drw | with_reducible apply At.dr))⟩, rfl⟩)
                        case measure =>
                          have m2 := ua.out
                          have m3 := dec.out
                          rw [m2.1, m2.2]
                          refine lt_of_eq (congr (congrArg Nat.add (At.u (A := X - Y) (t := 69) ?_)) (At.u (A := Y) (t := 69) ?_)) m3
                          all_goals repeat (first | with_reducible assumption | with_reducible apply At.put0 | with_reducible apply At.put1 | with_reducible refine At.far ?_ (by dsimp only; omega) _ | with_reducible apply At.al | with_reducible apply At.drw | with_reducible apply At.dr)
      case rest =>
        clear ka kb ko HB H1'
        obtain ⟨B2, HE, HB, kb, ko⟩ := hcut
        go_wp2_with fail
        go_loopw [5] (fun t wr => ∃ B k : Nat, t = .int .i64 (k : Int) ∧ k < 128 ∧ Hid (2 ^ k * B = G) ∧ Below w.heap.size w wr ∧ At wr (w.heap.size + 1) 69 #[.int .u64 (hiN B : Int), .int .u64 (loN B : Int)] ∧ At wr (w.heap.size + 1 + 1) 69 #[.int .u64 0, .int .u64 0]) (fun t _ => (intOf t).toNat)
        case atStart => exact ⟨B2, k, rfl, hk, HE, HB, kb, ko⟩
        case round =>
          clear kb ko HB HE hk
          obtain ⟨B, k, rfl, hk, HE, HB, kb, ko⟩ := hrel
          have lb := kb.lt
          obtain ⟨cb0, cb1, fb0, fb1⟩ := kb.two
          have lo := ko.lt
          obtain ⟨co0, co1, fo0, fo1⟩ := ko.two
          rcases Nat.eq_zero_or_pos k with h0 | h0
          · subst h0
            obtain rfl : B = G := by have := HE.out; omega
            go_wp2_with fail
            exact bodyPost_ret (v := uv B) (by simp [results, Tryd.results51, go_sem, *]) rfl ⟨rfl, (by repeat (first | with_reducible assumption | with_reducible exact Below.refl _ _ | with_reducible refine below_al ?_ _ | with_reducible refine below_drew ?_ | with_reducible refine below_drewN ?_ _ | with_reducible refine below_set ?_ (by dsimp only; omega) _))⟩
          · obtain ⟨j, rfl⟩ : ∃ j, k = j + 1 := ⟨k - 1, by omega⟩
            have HP := Lib.hid (plus_u B B (dbl_fits HE.out GG.out))
            have HE' := Lib.hid (dbl_back HE.out)
            clear HE
            go_wp2_with fail
            refine (HP.out _).mono ?_
            rintro e v ⟨rfl, hb⟩
            replace kb : At v (w.heap.size + 1) 69 #[.int .u64 (hiN B : Int), .int .u64 (loN B : Int)] := At.bel (by repeat (first | with_reducible assumption | with_reducible apply At.put0 | with_reducible apply At.put1 | with_reducible refine At.far ?_ (by dsimp only; omega) _ | with_reducible apply At.al | with_reducible apply At.drw | with_reducible apply At.dr)) hb
            replace ko : At v (w.heap.size + 1 + 1) 69 #[.int .u64 0, .int .u64 0] := At.bel (by repeat (first | with_reducible assumption | with_reducible apply At.put0 | with_reducible apply At.put1 | with_reducible refine At.far ?_ (by dsimp only; omega) _ | with_reducible apply At.al | with_reducible apply At.drw | with_reducible apply At.dr)) hb
            replace HB : Below w.heap.size w v := below_then (by repeat (first | with_reducible assumption | with_reducible exact Below.refl _ _ | with_reducible refine below_al ?_ _ | with_reducible refine below_drew ?_ | with_reducible refine below_drewN ?_ _ | with_reducible refine below_set ?_ (by dsimp only; omega) _)) hb
            clear hb lb cb0 cb1 fb0 fb1 lo co0 co1 fo0 fo1
            have lb := kb.lt
            obtain ⟨cb0, cb1, fb0, fb1⟩ := kb.two
            have lo := ko.lt
            obtain ⟨co0, co1, fo0, fo1⟩ := ko.two
            go_wp2_with fail
            go_roundw
            case rel => first | exact ⟨B + B, j, by go_num, by omega, HE', (by repeat (first | with_reducible assumption | with_reducible exact Below.refl _ _ | with_reducible refine below_al ?_ _ | with_reducible refine below_drew ?_ | with_reducible refine below_drewN ?_ _ | with_reducible refine below_set ?_ (by dsimp only; omega) _)), (by repeat (first | with_reducible assumption | with_reducible apply At.put0 | with_reducible apply At.put1 | with_reducible refine At.far ?_ (by dsimp only; omega) _ | with_reducible apply At.al | with_reducible apply At.drw | with_reducible apply At.dr)), (by repeat (first | with_reducible assumption | with_reducible apply At.put0 | with_reducible apply At.put1 | with_reducible refine At.far ?_ (by dsimp only; omega) _ | with_reducible apply At.al | with_reducible apply At.drw | with_reducible apply At.dr))⟩ | ((repeat apply Exists.intro); exact ⟨⟨B + B, j, by go_num, by omega, HE', (by repeat (first | with_reducible assumption | with_reducible exact Below.refl _ _ | with_reducible refine below_al ?_ _ | with_reducible refine below_drew ?_ | with_reducible refine below_drewN ?_ _ | with_reducible refine below_set ?_ (by dsimp only; omega) _)), (by repeat (first | with_reducible assumption | with_reducible apply At.put0 | with_reducible apply At.put1 | with_reducible refine At.far ?_ (by dsimp only; omega) _ | with_reducible apply At.al | with_reducible apply At.drw | with_reducible apply At.dr)), (by repeat (first | with_reducible assumption | with_reducible apply At.put0 | with_reducible apply At.put1 | with_reducible refine At.far ?_ (by dsimp only; omega) _ | with_reducible apply At.al | with_reducible apply At.drw | with_reducible apply At.dr))⟩, rfl⟩)
            case measure => simp [intOf]; try omega
#print axioms gcd_u

end Go.Proofs.YtpijmjffobkalaaDoor
