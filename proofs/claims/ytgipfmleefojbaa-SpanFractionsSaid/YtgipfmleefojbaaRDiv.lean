/- The reference's quotient of spans. -/
import Derived.Test.YtgipfmleefojbaaRMul
import Derived.Deep.RegionHeld3
import Derived.Deep.DrawnRows
set_option linter.unusedVariables false
namespace Go.Proofs.Ytgipfmleefojbaa
open Go.ChangeShapes Go.WideShapes Go.ChangeAt Go.RowKit

attribute [local go_sem ↓] Go.wp_at_zero Go.wp_at_succ
def lo4 (p q r s : Int) : Int := minI (minI (minI p q) r) s
def hi4 (p q r s : Int) : Int := maxI (maxI (maxI p q) r) s
theorem divS_ok {al ah bl bh : Int} (h1 : validB al ah = true) (h2 : validB bl bh = true) (hz : hasB bl bh 0 = false) :
    divS al ah bl bh = fitS (lo4 (dnS al 1 bl) (dnS al 1 bh) (dnS ah 1 bl) (dnS ah 1 bh)) (hi4 (upS al 1 bl) (upS al 1 bh) (upS ah 1 bl) (upS ah 1 bh)) ∧
    lo4 (dnS al 1 bl) (dnS al 1 bh) (dnS ah 1 bl) (dnS ah 1 bh) ≤ hi4 (upS al 1 bl) (upS al 1 bh) (upS ah 1 bl) (upS ah 1 bh) := by
  have g1 := validB_iff.1 h1
  have g2 := validB_iff.1 h2
  have hz' : ¬ (bl ≤ 0 ∧ 0 ≤ bh) := by simpa [hasB] using hz
  have o1 := of_one (a := al) (c := bl) (by omega) (by omega)
  have o2 := of_one (a := al) (c := bh) (by omega) (by omega)
  have o3 := of_one (a := ah) (c := bl) (by omega) (by omega)
  have o4 := of_one (a := ah) (c := bh) (by omega) (by omega)
  have e0 : hullOk (divL al ah bl bh) = true := by simp [hullOk, divL, o1, o2, o3, o4]
  have e1 := dn_le_up al 1 bl
  have e2 := dn_le_up al 1 bh
  have e3 := dn_le_up ah 1 bl
  have e4 := dn_le_up ah 1 bh
  have e5 : (decide (bl ≤ 0) && decide (0 ≤ bh)) = false := hz
  simp only [divS, h1, h2, Bool.and_self, if_true, e5, hullS, e0, Bool.false_eq_true, if_false]
  simp only [hullLo, hullHi, divL, List.foldl_cons, List.foldl_nil]
  simp only [okS, Bool.and_eq_true, withinB_iff] at o1 o2 o3 o4
  unfold lo4 hi4
  generalize dnS al 1 bl = p at *
  generalize dnS al 1 bh = q at *
  generalize dnS ah 1 bl = r at *
  generalize dnS ah 1 bh = s at *
  generalize upS al 1 bl = p' at *
  generalize upS al 1 bh = q' at *
  generalize upS ah 1 bl = r' at *
  generalize upS ah 1 bh = s' at *
  simp only [minI_eq, maxI_eq]
  refine ⟨?_, by omega⟩
  rw [fitS_yes (withinB_iff.2 (by omega)) (withinB_iff.2 (by omega))]
  simp only [Prod.mk.injEq, and_true]
  constructor <;> omega
theorem least4 (p q r s : Int) (b : Nat) (w : World) (hat : At w b 3 #[.int .i64 p, .int .i64 q, .int .i64 r, .int .i64 s]) :
    Calls Try.prog 47 #[.slice (some ⟨b, 0, none⟩) 4 4] w fun e w' => e = .returned (.int .i64 (lo4 p q r s)) ∧ w = w' := least_any p [q, r, s] b 4 rfl (by simp) w hat
theorem greatest4 (p q r s : Int) (b : Nat) (w : World) (hat : At w b 3 #[.int .i64 p, .int .i64 q, .int .i64 r, .int .i64 s]) :
    Calls Try.prog 48 #[.slice (some ⟨b, 0, none⟩) 4 4] w fun e w' => e = .returned (.int .i64 (hi4 p q r s)) ∧ w = w' := greatest_any p [q, r, s] b 4 rfl (by simp) w hat

/-- A block of a span, whatever it holds. -/
def RetAt (w : World) (g : Nat) : Prop := ∃ x y : Int, At w g 23 #[.int .i64 x, .int .i64 y]
/-- The integer in a cell. -/
def intAt (w : World) (g i : Nat) : Int := match w.cell? ⟨g, i, none⟩ with | some (.int .i64 n) => n | _ => 0
theorem intAt_eq {w : World} {g i : Nat} {n : Int} (h : w.cell? ⟨g, i, none⟩ = some (.int .i64 n)) : w.cell? ⟨g, i, none⟩ = some (.int .i64 (intAt w g i)) := by
  unfold intAt; rw [h]
theorem RetAt.al {w : World} {g : Nat} (h : RetAt w g) (o : Obj) : RetAt (w.alloc o) g := let ⟨x, y, k⟩ := h; ⟨x, y, k.al o⟩
theorem RetAt.drw {w : World} {g : Nat} (h : RetAt w g) : RetAt w.drew g := h
theorem RetAt.dr {w : World} {g : Nat} (h : RetAt w g) (n : Nat) : RetAt (w.drewN n) g := h
theorem RetAt.bel {w w' : World} {g : Nat} (h : RetAt w g) (hb : Below w.heap.size w w') : RetAt w' g := let ⟨x, y, k⟩ := h; ⟨x, y, k.bel hb⟩
theorem RetAt.put0 {w : World} {g : Nat} (h : RetAt w g) (u : Int) : RetAt (w.setCell ⟨g, 0, none⟩ (.int .i64 u)) g := let ⟨x, y, k⟩ := h; ⟨u, y, k.put0 _⟩
theorem RetAt.put1 {w : World} {g : Nat} (h : RetAt w g) (u : Int) : RetAt (w.setCell ⟨g, 1, none⟩ (.int .i64 u)) g := let ⟨x, y, k⟩ := h; ⟨x, u, k.put1 _⟩
theorem keepS {w w' : World} {al ah bl bh : Int} (h0 : At w' w.heap.size 23 #[.int .i64 al, .int .i64 ah]) (h1 : At w' (w.heap.size + 1) 23 #[.int .i64 bl, .int .i64 bh]) (h2 : RetAt w' (w.heap.size + 2)) (h3 : Hid (Below w.heap.size w w')) :
    w'.cell? ⟨w.heap.size, 0, none⟩ = some (.int .i64 al) ∧ w'.cell? ⟨w.heap.size, 1, none⟩ = some (.int .i64 ah) ∧ w'.cell? ⟨w.heap.size + 1, 0, none⟩ = some (.int .i64 bl) ∧ w'.cell? ⟨w.heap.size + 1, 1, none⟩ = some (.int .i64 bh) ∧ w'.cell? ⟨w.heap.size + 2, 0, none⟩ = some (.int .i64 (intAt w' (w.heap.size + 2) 0)) ∧ w'.cell? ⟨w.heap.size + 2, 1, none⟩ = some (.int .i64 (intAt w' (w.heap.size + 2) 1)) ∧ w'.frozen? ⟨w.heap.size + 2, 0, none⟩ = false ∧ w'.frozen? ⟨w.heap.size + 2, 1, none⟩ = false ∧ At w' w.heap.size 23 #[.int .i64 al, .int .i64 ah] ∧ At w' (w.heap.size + 1) 23 #[.int .i64 bl, .int .i64 bh] ∧ RetAt w' (w.heap.size + 2) ∧ Hid (Below w.heap.size w w') := by
  obtain ⟨x, y, k⟩ := h2
  exact ⟨h0.c0, h0.c1, h1.c0, h1.c1, intAt_eq k.c0, intAt_eq k.c1, k.f 0, k.f 1, h0, h1, ⟨x, y, k⟩, h3⟩
theorem hb_al {w v : World} (h : Hid (Below w.heap.size w v)) (o : Obj) : Hid (Below w.heap.size w (v.alloc o)) := Lib.hid (below_al h.out o)
theorem hb_bel {w v v' : World} (h : Hid (Below w.heap.size w v)) (hb : Below v.heap.size v v') : Hid (Below w.heap.size w v') := Lib.hid (below_then h.out hb)
theorem hb_drw {w v : World} (h : Hid (Below w.heap.size w v)) : Hid (Below w.heap.size w v.drew) := Lib.hid (below_drew h.out)
theorem hb_dr {w v : World} (h : Hid (Below w.heap.size w v)) (n : Nat) : Hid (Below w.heap.size w (v.drewN n)) := Lib.hid (below_drewN h.out n)
theorem hb_set {w v : World} (h : Hid (Below w.heap.size w v)) {p : Addr} (hp : w.heap.size ≤ p.block) (u : Value) : Hid (Below w.heap.size w (v.setCell p u)) := Lib.hid (below_set h.out hp u)

/-- What is read behind a store at the same place is what was stored. -/
theorem cell_back {w : World} {a : Addr} {v u : Value} (h : (w.setCell a v).cell? a = some u) : u = v := by
  cases hc : w.cell? a with
  | some y => rw [World.cell?_setCell_same w a v hc] at h; exact (Option.some.inj h).symm
  | none =>
    exfalso
    simp only [World.setCell, World.cell?, Array.getElem?_modify, ↓reduceIte] at h
    unfold World.cell? at hc
    cases hb : w.heap[a.block]? with
    | none => rw [hb] at h; simp at h
    | some o =>
      rw [hb] at h hc
      cases o <;> simp at h hc
      · rename_i c e f
        cases hs : a.spot.isSome with
        | true => simp_all
        | false =>
          have : c[a.off]? = none := by simp_all
          rw [Array.getElem?_eq_none_iff] at this
          simp_all
theorem cells_back {w : World} {g : Nat} {u v x y : Value} (h0 : ((w.setCell ⟨g, 0, none⟩ u).setCell ⟨g, 1, none⟩ v).cell? ⟨g, 0, none⟩ = some x)
    (h1 : ((w.setCell ⟨g, 0, none⟩ u).setCell ⟨g, 1, none⟩ v).cell? ⟨g, 1, none⟩ = some y) :
    ((w.setCell ⟨g, 0, none⟩ u).setCell ⟨g, 1, none⟩ v).cell? ⟨g, 0, none⟩ = some u ∧ ((w.setCell ⟨g, 0, none⟩ u).setCell ⟨g, 1, none⟩ v).cell? ⟨g, 1, none⟩ = some v := by
  have e1 := cell_back h1
  have h0' := h0
  rw [World.cell?_setCell_other _ _ _ _ (by simp)] at h0'
  have e0 := cell_back h0'
  exact ⟨by rw [h0, e0], by rw [h1, e1]⟩
theorem divS_zero {al ah bl bh : Int} (h1 : validB al ah = true) (h2 : validB bl bh = true) (hz : hasB bl bh 0 = true) : divS al ah bl bh = (0, 0, 16) := by
  have e5 : (decide (bl ≤ 0) && decide (0 ≤ bh)) = true := hz
  simp only [divS, h1, h2, Bool.and_self, if_true, e5]

set_option maxRecDepth 100000 in
set_option maxHeartbeats 4000000 in
theorem refdiv_span (al ah bl bh : Int) (h1' : validB al ah = true) (h2' : validB bl bh = true) (w : World) :
    Calls Try.prog 17 #[sp al ah, sp bl bh] w fun e w' => e = .returned (spv (divS al ah bl bh)) ∧ Below w.heap.size w w' := by
  have HZ := Lib.hid (fun w => has_any bl bh 0 w)
  cases hz : hasB bl bh 0
  · obtain ⟨e0, e1⟩ := divS_ok h1' h2' hz
    rw [e0]
    rw [validB_iff] at h1' h2'
    rw [hz] at HZ
    have hz' : ¬ (bl ≤ 0 ∧ 0 ≤ bh) := by simpa [hasB] using hz
    have F1 := Lib.hid (fun w => reffloor_any al bl (by omega) (by omega) (by omega) w)
    have F2 := Lib.hid (fun w => reffloor_any al bh (by omega) (by omega) (by omega) w)
    have F3 := Lib.hid (fun w => reffloor_any ah bl (by omega) (by omega) (by omega) w)
    have F4 := Lib.hid (fun w => reffloor_any ah bh (by omega) (by omega) (by omega) w)
    have C1 := Lib.hid (fun w => refceil_any al bl (by omega) (by omega) (by omega) w)
    have C2 := Lib.hid (fun w => refceil_any al bh (by omega) (by omega) (by omega) w)
    have C3 := Lib.hid (fun w => refceil_any ah bl (by omega) (by omega) (by omega) w)
    have C4 := Lib.hid (fun w => refceil_any ah bh (by omega) (by omega) (by omega) w)
    have HL := Lib.hid (least4 (dnS al 1 bl) (dnS al 1 bh) (dnS ah 1 bl) (dnS ah 1 bh))
    have HG := Lib.hid (greatest4 (upS al 1 bl) (upS al 1 bh) (upS ah 1 bl) (upS ah 1 bh))
    have HF := Lib.hid (fun w => reffits_any _ _ e1 w)
    clear e0 e1 h1' h2' hz hz'
    generalize dnS al 1 bl = p at *
    generalize dnS al 1 bh = q at *
    generalize dnS ah 1 bl = r at *
    generalize dnS ah 1 bh = s at *
    generalize upS al 1 bl = p' at *
    generalize upS al 1 bh = q' at *
    generalize upS ah 1 bl = r' at *
    generalize upS ah 1 bh = s' at *
    generalize lo4 p q r s = lo at *
    generalize hi4 p' q' r' s' = hi at *
    generalize fitS lo hi = x at *
    go_enter Try.func17, Try.ntmps17
    go_wp2_with fail
    refine (HZ.out _).mono ?_
    rintro e w1 ⟨rfl, hb⟩
    have a0 : At w1 w.heap.size 23 #[.int .i64 al, .int .i64 ah] := At.bel (by (repeat (first | (with_reducible apply At.new'; (focus (simp; done))) | with_reducible apply At.al | with_reducible apply At.drw | with_reducible apply At.dr))) hb
    have a1 : At w1 (w.heap.size + 1) 23 #[.int .i64 bl, .int .i64 bh] := At.bel (by (repeat (first | (with_reducible apply At.new'; (focus (simp; done))) | with_reducible apply At.al | with_reducible apply At.drw | with_reducible apply At.dr))) hb
    have a2 : At w1 (w.heap.size + 2) 23 #[.int .i64 0, .int .i64 0] := At.bel (by (repeat (first | (with_reducible apply At.new'; (focus (simp; done))) | with_reducible apply At.al | with_reducible apply At.drw | with_reducible apply At.dr))) hb
    have a3 : RetAt w1 (w.heap.size + 2) := ⟨_, _, a2⟩
    have hB : Hid (Below w.heap.size w w1) := Lib.hid (below_then (by repeat (first | with_reducible assumption | with_reducible exact Below.refl _ _ | with_reducible refine below_al ?_ _ | with_reducible refine below_drew ?_ | with_reducible refine below_drewN ?_ _ | with_reducible refine below_set ?_ (by dsimp only; omega) _)) hb)
    clear hb
    clear a2
    go_wp2_with fail
    go_region_held3 (fun w' => w'.cell? ⟨w.heap.size, 0, none⟩ = some (.int .i64 al) ∧ w'.cell? ⟨w.heap.size, 1, none⟩ = some (.int .i64 ah) ∧ w'.cell? ⟨w.heap.size + 1, 0, none⟩ = some (.int .i64 bl) ∧ w'.cell? ⟨w.heap.size + 1, 1, none⟩ = some (.int .i64 bh) ∧ w'.cell? ⟨w.heap.size + 2, 0, none⟩ = some (.int .i64 (intAt w' (w.heap.size + 2) 0)) ∧ w'.cell? ⟨w.heap.size + 2, 1, none⟩ = some (.int .i64 (intAt w' (w.heap.size + 2) 1)) ∧ w'.frozen? ⟨w.heap.size + 2, 0, none⟩ = false ∧ w'.frozen? ⟨w.heap.size + 2, 1, none⟩ = false ∧ At w' w.heap.size 23 #[.int .i64 al, .int .i64 ah] ∧ At w' (w.heap.size + 1) 23 #[.int .i64 bl, .int .i64 bh] ∧ RetAt w' (w.heap.size + 2) ∧ Hid (Below w.heap.size w w')) ((first | ((try go_split_ands); refine keepS ?_ ?_ ?_ ?_ <;> (repeat (first | with_reducible assumption | with_reducible apply At.al | with_reducible apply At.drw | with_reducible apply At.dr | with_reducible apply RetAt.al | with_reducible apply RetAt.drw | with_reducible apply RetAt.dr | with_reducible apply RetAt.put0 | with_reducible apply RetAt.put1 | with_reducible refine At.far ?_ (by dsimp only; omega) _ | with_reducible refine hb_set ?_ (by dsimp only; omega) _ | with_reducible refine hb_al ?_ _ | with_reducible refine hb_drw ?_ | with_reducible refine hb_dr ?_ _ | with_reducible refine At.bel ?_ (by assumption) | with_reducible refine RetAt.bel ?_ (by assumption) | with_reducible refine hb_bel ?_ (by assumption))); done) | go_keep))
      (first
        | (go_at_call 30; first | (with_reducible refine (F1.out _).mono ?_; rintro e w' ⟨rfl, hb⟩) | (with_reducible refine (F2.out _).mono ?_; rintro e w' ⟨rfl, hb⟩) | (with_reducible refine (F3.out _).mono ?_; rintro e w' ⟨rfl, hb⟩) | (with_reducible refine (F4.out _).mono ?_; rintro e w' ⟨rfl, hb⟩))
        | (go_at_call 31; first | (with_reducible refine (C1.out _).mono ?_; rintro e w' ⟨rfl, hb⟩) | (with_reducible refine (C2.out _).mono ?_; rintro e w' ⟨rfl, hb⟩) | (with_reducible refine (C3.out _).mono ?_; rintro e w' ⟨rfl, hb⟩) | (with_reducible refine (C4.out _).mono ?_; rintro e w' ⟨rfl, hb⟩))
        | (go_at_call 47; refine (HL.out _ _ ?_).mono ?_; (repeat (first | (with_reducible apply At.new'; (focus (simp; done))) | with_reducible apply At.al | with_reducible apply At.drw)); rintro e w' ⟨rfl, rfl⟩)
        | (go_at_call 48; refine (HG.out _ _ ?_).mono ?_; (repeat (first | (with_reducible apply At.new'; (focus (simp; done))) | with_reducible apply At.al | with_reducible apply At.drw)); rintro e w' ⟨rfl, rfl⟩)
        | (go_at_call 46; (with_reducible refine (HF.out _).mono ?_; rintro e w' ⟨rfl, hb⟩)))
    all_goals go_wp2
    all_goals
      rename_i hS
      have hk := cells_back hS.2.2.2.2.1 hS.2.2.2.2.2.1
      have hb9 := hS.2.2.2.2.2.2.2.2.2.2.2.out
      clear hS
      obtain ⟨k0, k1⟩ := hk
      exact bodyPost_ret (v := spv x) (by simp [results, Try.results17, go_sem, k0, k1]) rfl ⟨rfl, hb9⟩
  · rw [divS_zero h1' h2' hz]
    rw [hz] at HZ
    clear h1' h2' hz
    go_enter Try.func17, Try.ntmps17
    go_wp2_with fail
    refine (HZ.out _).mono ?_
    rintro e w1 ⟨rfl, hb⟩
    have a2 : At w1 (w.heap.size + 2) 23 #[.int .i64 0, .int .i64 0] := At.bel (by (repeat (first | (with_reducible apply At.new'; (focus (simp; done))) | with_reducible apply At.al | with_reducible apply At.drw | with_reducible apply At.dr))) hb
    have hB : Below w.heap.size w w1 := below_then (by repeat (first | with_reducible assumption | with_reducible exact Below.refl _ _ | with_reducible refine below_al ?_ _ | with_reducible refine below_drew ?_ | with_reducible refine below_drewN ?_ _ | with_reducible refine below_set ?_ (by dsimp only; omega) _)) hb
    clear hb
    have l2 := a2.lt
    obtain ⟨f0, f1, f2, f3⟩ := a2.two
    go_wp2_with fail
    exact bodyPost_ret (v := spv (0, 0, 16)) (by simp [results, Try.results17, go_sem, f0, f1]) rfl ⟨rfl, (by repeat (first | with_reducible assumption | with_reducible exact Below.refl _ _ | with_reducible refine below_al ?_ _ | with_reducible refine below_drew ?_ | with_reducible refine below_drewN ?_ _ | with_reducible refine below_set ?_ (by dsimp only; omega) _))⟩

#print axioms refdiv_span

end Go.Proofs.Ytgipfmleefojbaa
