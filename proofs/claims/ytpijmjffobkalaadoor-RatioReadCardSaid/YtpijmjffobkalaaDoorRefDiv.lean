/- The reference's long division: quotient and rest of two magnitudes of 128 bits. -/
import Derived.Test.YtpijmjffobkalaaDoorRefU
import Derived.Test.YtpijmjffobkalaaDoorLd
import Derived.Deep.DeepCutAuto
import Derived.Deep.RegionHeld3
set_option linter.unusedVariables false
namespace Go.Proofs.YtpijmjffobkalaaDoor
open Go.ChangeShapes Go.WideShapes Go.ChangeAt Go.RowKit

set_option maxRecDepth 100000 in
theorem refdiv_fast (al bl q r : Nat) (hal : al < 18446744073709551616) (hb : 0 < bl) (hbl : bl < 18446744073709551616)
    (eq : IntKind.u64.wrap ((al : Int) / (bl : Int)) = (q : Int)) (er : (al : Int) % (bl : Int) = (r : Int)) (w : World) :
    Calls Tryd.prog 69 #[.agg #[.int .u64 0, .int .u64 al], .agg #[.int .u64 0, .int .u64 bl]] w fun e w' =>
      e = .returned (.tuple #[.agg #[.int .u64 0, .int .u64 (q : Int)], .agg #[.int .u64 0, .int .u64 (r : Int)]]) ∧ Below w.heap.size w w' := by
  have h1 : (1 : Int) ≤ (bl : Int) := by omega
  go_enter Tryd.func69, Tryd.ntmps69
  go_wp2
  go_region
  all_goals go_wp2
  exact bodyPost_ret (v := .tuple #[.agg #[.int .u64 0, .int .u64 (q : Int)], .agg #[.int .u64 0, .int .u64 (r : Int)]]) (by simp [results, Tryd.results69, go_sem]) rfl ⟨rfl, by repeat (first | exact Below.refl _ _ | refine below_al ?_ _ | refine below_drew ?_)⟩

set_option maxRecDepth 100000 in
set_option maxHeartbeats 4000000 in
theorem refdiv_slow (A B ah al bh bl qh ql rh rl : Nat) (hal : al < 18446744073709551616) (hah : ah < 18446744073709551616) (hbl : bl < 18446744073709551616) (hbh : bh < 18446744073709551616)
    (hA : Hid (A = ah * 18446744073709551616 + al)) (hB : Hid (B = bh * 18446744073709551616 + bl)) (hpos : 0 < B)
    (hq : Hid (qh * 18446744073709551616 + ql = A / B)) (hql : ql < 18446744073709551616) (hr : Hid (rh * 18446744073709551616 + rl = A % B)) (hrl : rl < 18446744073709551616)
    (hg : ((ah : Int) == 0) = false ∨ ((ah : Int) == 0) = true ∧ ((bh : Int) == 0) = false) (w : World) :
    Calls Tryd.prog 69 #[.agg #[.int .u64 ah, .int .u64 al], .agg #[.int .u64 bh, .int .u64 bl]] w fun e w' =>
      e = .returned (.tuple #[.agg #[.int .u64 (qh : Int), .int .u64 (ql : Int)], .agg #[.int .u64 (rh : Int), .int .u64 (rl : Int)]]) ∧ Below w.heap.size w w' := by
  rcases hg with hg | ⟨hg, hg'⟩
  all_goals
    go_enter Tryd.func69, Tryd.ntmps69
    go_wp2
    go_loopw [8] (fun i wr => ∃ k a1 a0 q1 q0 r1 r0 : Nat, k ≤ 128 ∧ i = .int .i64 (k : Int) ∧ Hid (LdH A B k a1 a0 q1 q0 r1 r0) ∧ Below w.heap.size w wr ∧
        At wr w.heap.size 69 #[.int .u64 (a1 : Int), .int .u64 (a0 : Int)] ∧ At wr (w.heap.size + 1) 69 #[.int .u64 (bh : Int), .int .u64 (bl : Int)] ∧
        At wr (w.heap.size + 1 + 1) 69 #[.int .u64 0, .int .u64 0] ∧ At wr (w.heap.size + 1 + 1 + 1) 69 #[.int .u64 0, .int .u64 0] ∧
        At wr (w.heap.size + 1 + 1 + 1 + 1) 69 #[.int .u64 (q1 : Int), .int .u64 (q0 : Int)] ∧ At wr (w.heap.size + 1 + 1 + 1 + 1 + 1) 69 #[.int .u64 (r1 : Int), .int .u64 (r0 : Int)])
      (fun i _ => 128 - (intOf i).toNat)
    case atStart => exact ⟨0, ah, al, 0, 0, 0, 0, by omega, rfl, ⟨by have := ld_zero A B hpos (by have := hA.out; omega); rw [← hA.out]; exact this, hal, by omega, by omega⟩, by repeat (first | exact Below.refl _ _ | refine below_al ?_ _), (by repeat (first | (with_reducible refine At.new' ?_; (focus (simp; done))) | with_reducible refine At.al ?_ _)), (by repeat (first | (with_reducible refine At.new' ?_; (focus (simp; done))) | with_reducible refine At.al ?_ _)), (by repeat (first | (with_reducible refine At.new' ?_; (focus (simp; done))) | with_reducible refine At.al ?_ _)), (by repeat (first | (with_reducible refine At.new' ?_; (focus (simp; done))) | with_reducible refine At.al ?_ _)), (by show At _ _ _ #[.int .u64 0, .int .u64 0]; repeat (first | (with_reducible refine At.new' ?_; (focus (simp; done))) | with_reducible refine At.al ?_ _)), (by show At _ _ _ #[.int .u64 0, .int .u64 0]; repeat (first | (with_reducible refine At.new' ?_; (focus (simp; done))) | with_reducible refine At.al ?_ _))⟩
    case round =>
      obtain ⟨k, a1, a0, q1, q0, r1, r0, hk, rfl, hinv, hbel, ba, bb, b0, b1, bq, br⟩ := hrel
      have lba := ba.lt
      obtain ⟨cba0, cba1, fba0, fba1⟩ := ba.two
      have lbb := bb.lt
      obtain ⟨cbb0, cbb1, fbb0, fbb1⟩ := bb.two
      have lb0 := b0.lt
      obtain ⟨cb00, cb01, fb00, fb01⟩ := b0.two
      have lb1 := b1.lt
      obtain ⟨cb10, cb11, fb10, fb11⟩ := b1.two
      have lbq := bq.lt
      obtain ⟨cbq0, cbq1, fbq0, fbq1⟩ := bq.two
      have lbr := br.lt
      obtain ⟨cbr0, cbr1, fbr0, fbr1⟩ := br.two
      by_cases hlt : k < 128
      · obtain ⟨ov, eov, dov⟩ := nm_shr63 r1
        obtain ⟨x1, e1, d1⟩ := nm_shl1 r1
        obtain ⟨x2, e2, d2⟩ := nm_shr63 r0
        obtain ⟨nr1, e3, d3⟩ := nm_add x1 x2
        obtain ⟨x3, e4, d4⟩ := nm_shl1 r0
        obtain ⟨x4, e5, d5⟩ := nm_shr63 a1
        obtain ⟨nr0, e6, d6⟩ := nm_add x3 x4
        obtain ⟨x5, e7, d7⟩ := nm_shl1 a1
        obtain ⟨x6, e8, d8⟩ := nm_shr63 a0
        obtain ⟨na1, e9, d9⟩ := nm_add x5 x6
        obtain ⟨na0, e10, d10⟩ := nm_shl1 a0
        obtain ⟨x7, e11, d11⟩ := nm_shl1 q1
        obtain ⟨x8, e12, d12⟩ := nm_shr63 q0
        obtain ⟨nq1, e13, d13⟩ := nm_add x7 x8
        obtain ⟨nq0, e14, d14⟩ := nm_shl1 q0
        have HS : LdMore A B k a1 a0 q1 q0 r1 r0 bh bl ov nr1 nr0 na1 na0 nq1 nq0 := ld_more hinv.out hB.out hlt hbh hbl dov.out d1.out d2.out d3.out d4.out d5.out d6.out d7.out d8.out d9.out d10.out d11.out d12.out d13.out d14.out
        obtain ⟨hyes, hno, hov, bq0⟩ := HS
        have Hyes := Lib.hid hyes
        have Hno := Lib.hid hno
        clear hyes hno
        rcases hov with hov | ⟨hov, hcmp⟩
        · -- what falls out at the top says that the rest is not less
          have ov1 : (0 : Int) < (ov : Int) := by omega
          have E := Lib.hid (Hyes.out (.inl hov))
          obtain ⟨mr1, em1, mr0, em0, dmr⟩ := E.out
          have hM : ∀ w : World, Calls Tryd.prog 56 #[.agg #[.int .u64 nr1, .int .u64 nr0], .agg #[.int .u64 bh, .int .u64 bl]] w fun e w' => e = .returned (.agg #[.int .u64 (mr1 : Int), .int .u64 (mr0 : Int)]) ∧ Below w.heap.size w w' := fun w => by
            have := refminus_any nr1 nr0 bh bl w
            rwa [em1, em0] at this
          have HM := Lib.hid hM
          clear hM em1 em0 E
          go_wp2_with fail
          refine (HM.out _).mono ?_
          rintro e wm ⟨rfl, hbm⟩
          have ma : At wm (w.heap.size) 69 #[.int .u64 (na1 : Int), .int .u64 (na0 : Int)] := At.bel (by repeat (first | with_reducible assumption | with_reducible apply At.put0 | with_reducible apply At.put1 | with_reducible refine At.far ?_ (by dsimp only; omega) _)) hbm
          have mb : At wm (w.heap.size + 1) 69 #[.int .u64 (bh : Int), .int .u64 (bl : Int)] := At.bel (by repeat (first | with_reducible assumption | with_reducible apply At.put0 | with_reducible apply At.put1 | with_reducible refine At.far ?_ (by dsimp only; omega) _)) hbm
          have m0 : At wm (w.heap.size + 1 + 1) 69 #[.int .u64 0, .int .u64 0] := At.bel (by repeat (first | with_reducible assumption | with_reducible apply At.put0 | with_reducible apply At.put1 | with_reducible refine At.far ?_ (by dsimp only; omega) _)) hbm
          have m1 : At wm (w.heap.size + 1 + 1 + 1) 69 #[.int .u64 0, .int .u64 0] := At.bel (by repeat (first | with_reducible assumption | with_reducible apply At.put0 | with_reducible apply At.put1 | with_reducible refine At.far ?_ (by dsimp only; omega) _)) hbm
          have mq : At wm (w.heap.size + 1 + 1 + 1 + 1) 69 #[.int .u64 (nq1 : Int), .int .u64 (nq0 : Int)] := At.bel (by repeat (first | with_reducible assumption | with_reducible apply At.put0 | with_reducible apply At.put1 | with_reducible refine At.far ?_ (by dsimp only; omega) _)) hbm
          have mr : At wm (w.heap.size + 1 + 1 + 1 + 1 + 1) 69 #[.int .u64 (nr1 : Int), .int .u64 (nr0 : Int)] := At.bel (by repeat (first | with_reducible assumption | with_reducible apply At.put0 | with_reducible apply At.put1 | with_reducible refine At.far ?_ (by dsimp only; omega) _)) hbm
          have mbel : Below w.heap.size w wm := below_then (by repeat (first | with_reducible assumption | with_reducible refine below_set ?_ (by dsimp only; omega) _)) hbm
          clear hbm
          clear cba0 cba1 fba0 fba1 lba cbb0 cbb1 fbb0 fbb1 lbb cb00 cb01 fb00 fb01 lb0 cb10 cb11 fb10 fb11 lb1 cbq0 cbq1 fbq0 fbq1 lbq cbr0 cbr1 fbr0 fbr1 lbr
          have lma := ma.lt
          obtain ⟨cma0, cma1, fma0, fma1⟩ := ma.two
          have lmb := mb.lt
          obtain ⟨cmb0, cmb1, fmb0, fmb1⟩ := mb.two
          have lm0 := m0.lt
          obtain ⟨cm00, cm01, fm00, fm01⟩ := m0.two
          have lm1 := m1.lt
          obtain ⟨cm10, cm11, fm10, fm11⟩ := m1.two
          have lmq := mq.lt
          obtain ⟨cmq0, cmq1, fmq0, fmq1⟩ := mq.two
          have lmr := mr.lt
          obtain ⟨cmr0, cmr1, fmr0, fmr1⟩ := mr.two
          go_wp2_with fail
          go_roundw
          case rel => exact ⟨k + 1, na1, na0, nq1, nq0 + 1, mr1, mr0, by omega, by go_num, dmr, (by repeat (first | with_reducible assumption | with_reducible refine below_set ?_ (by dsimp only; omega) _)), (by repeat (first | with_reducible assumption | with_reducible apply At.put0 | with_reducible apply At.put1 | with_reducible refine At.far ?_ (by dsimp only; omega) _)), (by repeat (first | with_reducible assumption | with_reducible apply At.put0 | with_reducible apply At.put1 | with_reducible refine At.far ?_ (by dsimp only; omega) _)), (by repeat (first | with_reducible assumption | with_reducible apply At.put0 | with_reducible apply At.put1 | with_reducible refine At.far ?_ (by dsimp only; omega) _)), (by repeat (first | with_reducible assumption | with_reducible apply At.put0 | with_reducible apply At.put1 | with_reducible refine At.far ?_ (by dsimp only; omega) _)), (by rw [show ((nq0 + 1 : Nat) : Int) = (nq0 : Int) + 1 from by omega]; repeat (first | with_reducible assumption | with_reducible apply At.put0 | with_reducible apply At.put1 | with_reducible refine At.far ?_ (by dsimp only; omega) _)), (by repeat (first | with_reducible assumption | with_reducible apply At.put0 | with_reducible apply At.put1 | with_reducible refine At.far ?_ (by dsimp only; omega) _))⟩
          case measure => simp [intOf]; omega
        · have ov1 : ov = 0 := hov
          subst ov1
          by_cases hc : nr1 < bh ∨ nr1 = bh ∧ nr0 < bl
          · have E := Lib.hid (Hno.out rfl hc)
            have hL : ∀ w : World, Calls Tryd.prog 55 #[.agg #[.int .u64 nr1, .int .u64 nr0], .agg #[.int .u64 bh, .int .u64 bl]] w fun e w' => e = .returned (.bool true) ∧ Below w.heap.size w w' := fun w => by
              have := refless_any nr1 nr0 bh bl w
              rwa [decide_eq_true (by omega)] at this
            have HL := Lib.hid hL
            clear hL
            go_wp2_with fail
            refine (HL.out _).mono ?_
            rintro e wl ⟨rfl, hbl⟩
            have na : At wl (w.heap.size) 69 #[.int .u64 (na1 : Int), .int .u64 (na0 : Int)] := At.bel (by repeat (first | with_reducible assumption | with_reducible apply At.put0 | with_reducible apply At.put1 | with_reducible refine At.far ?_ (by dsimp only; omega) _)) hbl
            have nb : At wl (w.heap.size + 1) 69 #[.int .u64 (bh : Int), .int .u64 (bl : Int)] := At.bel (by repeat (first | with_reducible assumption | with_reducible apply At.put0 | with_reducible apply At.put1 | with_reducible refine At.far ?_ (by dsimp only; omega) _)) hbl
            have n0 : At wl (w.heap.size + 1 + 1) 69 #[.int .u64 0, .int .u64 0] := At.bel (by repeat (first | with_reducible assumption | with_reducible apply At.put0 | with_reducible apply At.put1 | with_reducible refine At.far ?_ (by dsimp only; omega) _)) hbl
            have n1 : At wl (w.heap.size + 1 + 1 + 1) 69 #[.int .u64 0, .int .u64 0] := At.bel (by repeat (first | with_reducible assumption | with_reducible apply At.put0 | with_reducible apply At.put1 | with_reducible refine At.far ?_ (by dsimp only; omega) _)) hbl
            have nq : At wl (w.heap.size + 1 + 1 + 1 + 1) 69 #[.int .u64 (nq1 : Int), .int .u64 (nq0 : Int)] := At.bel (by repeat (first | with_reducible assumption | with_reducible apply At.put0 | with_reducible apply At.put1 | with_reducible refine At.far ?_ (by dsimp only; omega) _)) hbl
            have nr : At wl (w.heap.size + 1 + 1 + 1 + 1 + 1) 69 #[.int .u64 (nr1 : Int), .int .u64 (nr0 : Int)] := At.bel (by repeat (first | with_reducible assumption | with_reducible apply At.put0 | with_reducible apply At.put1 | with_reducible refine At.far ?_ (by dsimp only; omega) _)) hbl
            have nbel : Below w.heap.size w wl := below_then (by repeat (first | with_reducible assumption | with_reducible refine below_set ?_ (by dsimp only; omega) _)) hbl
            clear hbl
            clear cba0 cba1 fba0 fba1 lba cbb0 cbb1 fbb0 fbb1 lbb cb00 cb01 fb00 fb01 lb0 cb10 cb11 fb10 fb11 lb1 cbq0 cbq1 fbq0 fbq1 lbq cbr0 cbr1 fbr0 fbr1 lbr
            have lna := na.lt
            obtain ⟨cna0, cna1, fna0, fna1⟩ := na.two
            have lnb := nb.lt
            obtain ⟨cnb0, cnb1, fnb0, fnb1⟩ := nb.two
            have ln0 := n0.lt
            obtain ⟨cn00, cn01, fn00, fn01⟩ := n0.two
            have ln1 := n1.lt
            obtain ⟨cn10, cn11, fn10, fn11⟩ := n1.two
            have lnq := nq.lt
            obtain ⟨cnq0, cnq1, fnq0, fnq1⟩ := nq.two
            have lnr := nr.lt
            obtain ⟨cnr0, cnr1, fnr0, fnr1⟩ := nr.two
            go_wp2_with fail
            go_roundw
            case rel => exact ⟨k + 1, na1, na0, nq1, nq0, nr1, nr0, by omega, by go_num, E, (by repeat (first | with_reducible assumption | with_reducible refine below_set ?_ (by dsimp only; omega) _)), (by repeat (first | with_reducible assumption | with_reducible apply At.put0 | with_reducible apply At.put1 | with_reducible refine At.far ?_ (by dsimp only; omega) _)), (by repeat (first | with_reducible assumption | with_reducible apply At.put0 | with_reducible apply At.put1 | with_reducible refine At.far ?_ (by dsimp only; omega) _)), (by repeat (first | with_reducible assumption | with_reducible apply At.put0 | with_reducible apply At.put1 | with_reducible refine At.far ?_ (by dsimp only; omega) _)), (by repeat (first | with_reducible assumption | with_reducible apply At.put0 | with_reducible apply At.put1 | with_reducible refine At.far ?_ (by dsimp only; omega) _)), (by repeat (first | with_reducible assumption | with_reducible apply At.put0 | with_reducible apply At.put1 | with_reducible refine At.far ?_ (by dsimp only; omega) _)), (by repeat (first | with_reducible assumption | with_reducible apply At.put0 | with_reducible apply At.put1 | with_reducible refine At.far ?_ (by dsimp only; omega) _))⟩
            case measure => simp [intOf]; omega
          · have E := Lib.hid (Hyes.out (.inr hc))
            have hL : ∀ w : World, Calls Tryd.prog 55 #[.agg #[.int .u64 nr1, .int .u64 nr0], .agg #[.int .u64 bh, .int .u64 bl]] w fun e w' => e = .returned (.bool false) ∧ Below w.heap.size w w' := fun w => by
              have := refless_any nr1 nr0 bh bl w
              rwa [decide_eq_false (by omega)] at this
            have HL := Lib.hid hL
            clear hL
            go_wp2_with fail
            refine (HL.out _).mono ?_
            rintro e wl ⟨rfl, hbl⟩
            have na : At wl (w.heap.size) 69 #[.int .u64 (na1 : Int), .int .u64 (na0 : Int)] := At.bel (by repeat (first | with_reducible assumption | with_reducible apply At.put0 | with_reducible apply At.put1 | with_reducible refine At.far ?_ (by dsimp only; omega) _)) hbl
            have nb : At wl (w.heap.size + 1) 69 #[.int .u64 (bh : Int), .int .u64 (bl : Int)] := At.bel (by repeat (first | with_reducible assumption | with_reducible apply At.put0 | with_reducible apply At.put1 | with_reducible refine At.far ?_ (by dsimp only; omega) _)) hbl
            have n0 : At wl (w.heap.size + 1 + 1) 69 #[.int .u64 0, .int .u64 0] := At.bel (by repeat (first | with_reducible assumption | with_reducible apply At.put0 | with_reducible apply At.put1 | with_reducible refine At.far ?_ (by dsimp only; omega) _)) hbl
            have n1 : At wl (w.heap.size + 1 + 1 + 1) 69 #[.int .u64 0, .int .u64 0] := At.bel (by repeat (first | with_reducible assumption | with_reducible apply At.put0 | with_reducible apply At.put1 | with_reducible refine At.far ?_ (by dsimp only; omega) _)) hbl
            have nq : At wl (w.heap.size + 1 + 1 + 1 + 1) 69 #[.int .u64 (nq1 : Int), .int .u64 (nq0 : Int)] := At.bel (by repeat (first | with_reducible assumption | with_reducible apply At.put0 | with_reducible apply At.put1 | with_reducible refine At.far ?_ (by dsimp only; omega) _)) hbl
            have nr : At wl (w.heap.size + 1 + 1 + 1 + 1 + 1) 69 #[.int .u64 (nr1 : Int), .int .u64 (nr0 : Int)] := At.bel (by repeat (first | with_reducible assumption | with_reducible apply At.put0 | with_reducible apply At.put1 | with_reducible refine At.far ?_ (by dsimp only; omega) _)) hbl
            have nbel : Below w.heap.size w wl := below_then (by repeat (first | with_reducible assumption | with_reducible refine below_set ?_ (by dsimp only; omega) _)) hbl
            clear hbl
            clear cba0 cba1 fba0 fba1 lba cbb0 cbb1 fbb0 fbb1 lbb cb00 cb01 fb00 fb01 lb0 cb10 cb11 fb10 fb11 lb1 cbq0 cbq1 fbq0 fbq1 lbq cbr0 cbr1 fbr0 fbr1 lbr
            have lna := na.lt
            obtain ⟨cna0, cna1, fna0, fna1⟩ := na.two
            have lnb := nb.lt
            obtain ⟨cnb0, cnb1, fnb0, fnb1⟩ := nb.two
            have ln0 := n0.lt
            obtain ⟨cn00, cn01, fn00, fn01⟩ := n0.two
            have ln1 := n1.lt
            obtain ⟨cn10, cn11, fn10, fn11⟩ := n1.two
            have lnq := nq.lt
            obtain ⟨cnq0, cnq1, fnq0, fnq1⟩ := nq.two
            have lnr := nr.lt
            obtain ⟨cnr0, cnr1, fnr0, fnr1⟩ := nr.two
            obtain ⟨mr1, em1, mr0, em0, dmr⟩ := E.out
            have hM : ∀ w : World, Calls Tryd.prog 56 #[.agg #[.int .u64 nr1, .int .u64 nr0], .agg #[.int .u64 bh, .int .u64 bl]] w fun e w' => e = .returned (.agg #[.int .u64 (mr1 : Int), .int .u64 (mr0 : Int)]) ∧ Below w.heap.size w w' := fun w => by
              have := refminus_any nr1 nr0 bh bl w
              rwa [em1, em0] at this
            have HM := Lib.hid hM
            clear hM em1 em0 E
            go_wp2_with fail
            refine (HM.out _).mono ?_
            rintro e wm ⟨rfl, hbm⟩
            have ma : At wm (w.heap.size) 69 #[.int .u64 (na1 : Int), .int .u64 (na0 : Int)] := At.bel (by repeat (first | with_reducible assumption | with_reducible apply At.put0 | with_reducible apply At.put1 | with_reducible refine At.far ?_ (by dsimp only; omega) _)) hbm
            have mb : At wm (w.heap.size + 1) 69 #[.int .u64 (bh : Int), .int .u64 (bl : Int)] := At.bel (by repeat (first | with_reducible assumption | with_reducible apply At.put0 | with_reducible apply At.put1 | with_reducible refine At.far ?_ (by dsimp only; omega) _)) hbm
            have m0 : At wm (w.heap.size + 1 + 1) 69 #[.int .u64 0, .int .u64 0] := At.bel (by repeat (first | with_reducible assumption | with_reducible apply At.put0 | with_reducible apply At.put1 | with_reducible refine At.far ?_ (by dsimp only; omega) _)) hbm
            have m1 : At wm (w.heap.size + 1 + 1 + 1) 69 #[.int .u64 0, .int .u64 0] := At.bel (by repeat (first | with_reducible assumption | with_reducible apply At.put0 | with_reducible apply At.put1 | with_reducible refine At.far ?_ (by dsimp only; omega) _)) hbm
            have mq : At wm (w.heap.size + 1 + 1 + 1 + 1) 69 #[.int .u64 (nq1 : Int), .int .u64 (nq0 : Int)] := At.bel (by repeat (first | with_reducible assumption | with_reducible apply At.put0 | with_reducible apply At.put1 | with_reducible refine At.far ?_ (by dsimp only; omega) _)) hbm
            have mr : At wm (w.heap.size + 1 + 1 + 1 + 1 + 1) 69 #[.int .u64 (nr1 : Int), .int .u64 (nr0 : Int)] := At.bel (by repeat (first | with_reducible assumption | with_reducible apply At.put0 | with_reducible apply At.put1 | with_reducible refine At.far ?_ (by dsimp only; omega) _)) hbm
            have mbel : Below w.heap.size w wm := below_then (by repeat (first | with_reducible assumption | with_reducible refine below_set ?_ (by dsimp only; omega) _)) hbm
            clear hbm
            clear cna0 cna1 fna0 fna1 lna cnb0 cnb1 fnb0 fnb1 lnb cn00 cn01 fn00 fn01 ln0 cn10 cn11 fn10 fn11 ln1 cnq0 cnq1 fnq0 fnq1 lnq cnr0 cnr1 fnr0 fnr1 lnr
            have lma := ma.lt
            obtain ⟨cma0, cma1, fma0, fma1⟩ := ma.two
            have lmb := mb.lt
            obtain ⟨cmb0, cmb1, fmb0, fmb1⟩ := mb.two
            have lm0 := m0.lt
            obtain ⟨cm00, cm01, fm00, fm01⟩ := m0.two
            have lm1 := m1.lt
            obtain ⟨cm10, cm11, fm10, fm11⟩ := m1.two
            have lmq := mq.lt
            obtain ⟨cmq0, cmq1, fmq0, fmq1⟩ := mq.two
            have lmr := mr.lt
            obtain ⟨cmr0, cmr1, fmr0, fmr1⟩ := mr.two
            go_wp2_with fail
            go_roundw
            case rel => exact ⟨k + 1, na1, na0, nq1, nq0 + 1, mr1, mr0, by omega, by go_num, dmr, (by repeat (first | with_reducible assumption | with_reducible refine below_set ?_ (by dsimp only; omega) _)), (by repeat (first | with_reducible assumption | with_reducible apply At.put0 | with_reducible apply At.put1 | with_reducible refine At.far ?_ (by dsimp only; omega) _)), (by repeat (first | with_reducible assumption | with_reducible apply At.put0 | with_reducible apply At.put1 | with_reducible refine At.far ?_ (by dsimp only; omega) _)), (by repeat (first | with_reducible assumption | with_reducible apply At.put0 | with_reducible apply At.put1 | with_reducible refine At.far ?_ (by dsimp only; omega) _)), (by repeat (first | with_reducible assumption | with_reducible apply At.put0 | with_reducible apply At.put1 | with_reducible refine At.far ?_ (by dsimp only; omega) _)), (by rw [show ((nq0 + 1 : Nat) : Int) = (nq0 : Int) + 1 from by omega]; repeat (first | with_reducible assumption | with_reducible apply At.put0 | with_reducible apply At.put1 | with_reducible refine At.far ?_ (by dsimp only; omega) _)), (by repeat (first | with_reducible assumption | with_reducible apply At.put0 | with_reducible apply At.put1 | with_reducible refine At.far ?_ (by dsimp only; omega) _))⟩
            case measure => simp [intOf]; omega
      · obtain rfl : k = 128 := by omega
        obtain ⟨hfin, hq0, hr0⟩ := ld_fin hinv.out hq.out hql hr.out hrl
        obtain ⟨rfl, rfl⟩ := hq0
        obtain ⟨rfl, rfl⟩ := hr0
        go_wp2
        go_region
        all_goals go_wp2
        all_goals exact bodyPost_ret (v := .tuple #[.agg #[.int .u64 (q1 : Int), .int .u64 (q0 : Int)], .agg #[.int .u64 (r1 : Int), .int .u64 (r0 : Int)]]) (by simp [results, Tryd.results69, go_sem, *]) rfl ⟨rfl, by repeat (first | with_reducible assumption | refine below_drew ?_ | refine below_set ?_ (by dsimp only; omega) _)⟩
end Go.Proofs.YtpijmjffobkalaaDoor
