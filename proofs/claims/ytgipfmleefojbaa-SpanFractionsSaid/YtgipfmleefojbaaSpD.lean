/- Contracts of the reference's Hull and Meet. -/
import Derived.Test.YtgipfmleefojbaaSpC
import Derived.Deep.RegionHeld3
import Derived.Deep.DrawnRows
set_option linter.unusedVariables false
namespace Go.Proofs.Ytgipfmleefojbaa
open Go.ChangeShapes Go.WideShapes Go.ChangeAt Go.RowKit

attribute [local go_sem ↓] Go.wp_at_zero Go.wp_at_succ
theorem least2 (x y : Int) (b : Nat) (w : World) (hat : At w b 3 #[.int .i64 x, .int .i64 y]) :
    Calls Try.prog 47 #[.slice (some ⟨b, 0, none⟩) 2 2] w fun e w' => e = .returned (.int .i64 (minI x y)) ∧ w = w' := least_any x [y] b 2 rfl (by simp) w hat
theorem greatest2 (x y : Int) (b : Nat) (w : World) (hat : At w b 3 #[.int .i64 x, .int .i64 y]) :
    Calls Try.prog 48 #[.slice (some ⟨b, 0, none⟩) 2 2] w fun e w' => e = .returned (.int .i64 (maxI x y)) ∧ w = w' := greatest_any x [y] b 2 rfl (by simp) w hat

set_option maxHeartbeats 1000000 in
theorem refhul_any (al ah bl bh : Int) (w : World) :
    Calls Try.prog 41 #[sp al ah, sp bl bh] w fun e w' => e = .returned (sp (minI al bl) (maxI ah bh)) ∧ Below w.heap.size w w' := by
  go_enter Try.func41, Try.ntmps41
  go_wp2
  go_region_held3 (fun w' => w'.cell? ⟨w.heap.size, 0, none⟩ = some (.int .i64 al) ∧ w'.cell? ⟨w.heap.size, 1, none⟩ = some (.int .i64 ah) ∧ w'.cell? ⟨w.heap.size + 1, 0, none⟩ = some (.int .i64 bl) ∧ w'.cell? ⟨w.heap.size + 1, 1, none⟩ = some (.int .i64 bh)) ((first | ((try go_split_ands); refine ⟨?_, ?_, ?_, ?_⟩ <;> (first | with_reducible apply At.c0 | with_reducible apply At.c1) <;> (repeat (first | (with_reducible apply At.new'; (focus (simp; done))) | with_reducible apply At.al | with_reducible apply At.drw)); done) | go_keep))
    (first
      | (go_at_call 47; refine (least2 al bl _ _ ?_).mono ?_; (repeat (first | (with_reducible apply At.new'; (focus (simp; done))) | with_reducible apply At.al | with_reducible apply At.drw)); rintro e w' ⟨rfl, rfl⟩)
      | (go_at_call 48; refine (greatest2 ah bh _ _ ?_).mono ?_; (repeat (first | (with_reducible apply At.new'; (focus (simp; done))) | with_reducible apply At.al | with_reducible apply At.drw)); rintro e w' ⟨rfl, rfl⟩))
  all_goals go_wp2
  all_goals exact bodyPost_ret (v := sp (minI al bl) (maxI ah bh)) (by simp [results, Try.results41, go_sem]) rfl ⟨rfl, (by repeat (first | with_reducible exact Below.refl _ _ | with_reducible refine below_al ?_ _ | with_reducible refine below_drew ?_ | with_reducible refine below_drewN ?_ _))⟩

set_option maxHeartbeats 2000000 in
theorem refmee_any (al ah bl bh : Int) (h1 : validB al ah = true) (h2 : validB bl bh = true) (w : World) :
    Calls Try.prog 40 #[sp al ah, sp bl bh] w fun e w' => e = .returned (spv (meeS al ah bl bh)) ∧ Below w.heap.size w w' := by
  rw [show meeS al ah bl bh = if minI ah bh < maxI al bl then (0, 0, 12) else (maxI al bl, minI ah bh, 0) from by simp [meeS, h1, h2]]
  have g1 := fun (b : Nat) (w : World) (hat : At w b 3 #[.int .i64 al, .int .i64 bl]) => greatest2 al bl b w hat
  have g2 := fun (b : Nat) (w : World) (hat : At w b 3 #[.int .i64 ah, .int .i64 bh]) => least2 ah bh b w hat
  generalize maxI al bl = lo at *
  generalize minI ah bh = hi at *
  have G1 := Lib.hid g1
  have G2 := Lib.hid g2
  clear g1 g2
  by_cases hc : hi < lo
  · rw [if_pos hc]
    go_enter Try.func40, Try.ntmps40
    go_wp2
    go_region_held3 (fun w' => w'.cell? ⟨w.heap.size, 0, none⟩ = some (.int .i64 al) ∧ w'.cell? ⟨w.heap.size, 1, none⟩ = some (.int .i64 ah) ∧ w'.cell? ⟨w.heap.size + 1, 0, none⟩ = some (.int .i64 bl) ∧ w'.cell? ⟨w.heap.size + 1, 1, none⟩ = some (.int .i64 bh)) ((first | ((try go_split_ands); refine ⟨?_, ?_, ?_, ?_⟩ <;> (first | with_reducible apply At.c0 | with_reducible apply At.c1) <;> (repeat (first | (with_reducible apply At.new'; (focus (simp; done))) | with_reducible apply At.al | with_reducible apply At.drw)); done) | go_keep))
      (first
        | (go_at_call 48; refine (G1.out _ _ ?_).mono ?_; (repeat (first | (with_reducible apply At.new'; (focus (simp; done))) | with_reducible apply At.al | with_reducible apply At.drw)); rintro e w' ⟨rfl, rfl⟩)
        | (go_at_call 47; refine (G2.out _ _ ?_).mono ?_; (repeat (first | (with_reducible apply At.new'; (focus (simp; done))) | with_reducible apply At.al | with_reducible apply At.drw)); rintro e w' ⟨rfl, rfl⟩))
    all_goals go_wp2
    all_goals exact bodyPost_ret (v := .tuple #[.agg #[.int .i64 (0), .int .i64 (0)], .int .i64 12]) (by simp [results, Try.results40, go_sem]) rfl ⟨rfl, (by repeat (first | with_reducible exact Below.refl _ _ | with_reducible refine below_al ?_ _ | with_reducible refine below_drew ?_ | with_reducible refine below_drewN ?_ _))⟩
  · rw [if_neg hc]
    go_enter Try.func40, Try.ntmps40
    go_wp2
    go_region_held3 (fun w' => w'.cell? ⟨w.heap.size, 0, none⟩ = some (.int .i64 al) ∧ w'.cell? ⟨w.heap.size, 1, none⟩ = some (.int .i64 ah) ∧ w'.cell? ⟨w.heap.size + 1, 0, none⟩ = some (.int .i64 bl) ∧ w'.cell? ⟨w.heap.size + 1, 1, none⟩ = some (.int .i64 bh)) ((first | ((try go_split_ands); refine ⟨?_, ?_, ?_, ?_⟩ <;> (first | with_reducible apply At.c0 | with_reducible apply At.c1) <;> (repeat (first | (with_reducible apply At.new'; (focus (simp; done))) | with_reducible apply At.al | with_reducible apply At.drw)); done) | go_keep))
      (first
        | (go_at_call 48; refine (G1.out _ _ ?_).mono ?_; (repeat (first | (with_reducible apply At.new'; (focus (simp; done))) | with_reducible apply At.al | with_reducible apply At.drw)); rintro e w' ⟨rfl, rfl⟩)
        | (go_at_call 47; refine (G2.out _ _ ?_).mono ?_; (repeat (first | (with_reducible apply At.new'; (focus (simp; done))) | with_reducible apply At.al | with_reducible apply At.drw)); rintro e w' ⟨rfl, rfl⟩))
    all_goals go_wp2
    all_goals exact bodyPost_ret (v := .tuple #[.agg #[.int .i64 (lo), .int .i64 (hi)], .int .i64 0]) (by simp [results, Try.results40, go_sem]) rfl ⟨rfl, (by repeat (first | with_reducible exact Below.refl _ _ | with_reducible refine below_al ?_ _ | with_reducible refine below_drew ?_ | with_reducible refine below_drewN ?_ _))⟩

#print axioms refhul_any

end Go.Proofs.Ytgipfmleefojbaa
