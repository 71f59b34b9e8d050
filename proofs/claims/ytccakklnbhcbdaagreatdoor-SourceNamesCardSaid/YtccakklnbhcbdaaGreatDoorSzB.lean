/- The law's none: a detail without anything is equal to the zero one. -/
import Derived.Test.YtccakklnbhcbdaaGreatDoorSzP
set_option linter.unusedVariables false
set_option linter.unusedSimpArgs false
namespace Go.Proofs.YtccakklnbhcbdaaGreatDoor
open Go.ChangeShapes Go.WideShapes Go.ChangeAt Go.RowKit

set_option maxRecDepth 100000 in
theorem same14_nil (a1 a2 : Option Addr) (c1 c2 : Nat) (w : World) : Calls Tryz.prog 98 #[.slice a1 0 c1, .slice a2 0 c2] w fun e w' => e = .returned (.bool true) ∧ Below w.heap.size w w' := by
  go_enter Tryz.func98, Tryz.ntmps98
  go_wp2_with fail
  go_loopg [5] 0 (fun g i wr => i = .int .i64 0 ∧ w = wr)
  case atStart => exact ⟨rfl, rfl⟩
  case round =>
    obtain ⟨rfl, rfl⟩ := hrel
    go_wp2_with fail
    go_ret
    exact ⟨rfl, Below.refl _ _⟩

set_option maxRecDepth 100000 in
theorem same16_nil (a1 a2 : Option Addr) (c1 c2 : Nat) (w : World) : Calls Tryz.prog 99 #[.slice a1 0 c1, .slice a2 0 c2] w fun e w' => e = .returned (.bool true) ∧ Below w.heap.size w w' := by
  go_enter Tryz.func99, Tryz.ntmps99
  go_wp2_with fail
  go_loopg [5] 0 (fun g i wr => i = .int .i64 0 ∧ w = wr)
  case atStart => exact ⟨rfl, rfl⟩
  case round =>
    obtain ⟨rfl, rfl⟩ := hrel
    go_wp2_with fail
    go_ret
    exact ⟨rfl, Below.refl _ _⟩

set_option maxRecDepth 100000 in
theorem same23_nil (a1 a2 : Option Addr) (c1 c2 : Nat) (w : World) : Calls Tryz.prog 100 #[.slice a1 0 c1, .slice a2 0 c2] w fun e w' => e = .returned (.bool true) ∧ Below w.heap.size w w' := by
  go_enter Tryz.func100, Tryz.ntmps100
  go_wp2_with fail
  go_loopg [5] 0 (fun g i wr => i = .int .i64 0 ∧ w = wr)
  case atStart => exact ⟨rfl, rfl⟩
  case round =>
    obtain ⟨rfl, rfl⟩ := hrel
    go_wp2_with fail
    go_ret
    exact ⟨rfl, Below.refl _ _⟩

set_option maxRecDepth 100000 in
theorem same17_nil (a1 a2 b1 b2 : Option Addr) (ac1 ac2 bc1 bc2 : Nat) (w : World) : Calls Tryz.prog 97 #[.agg #[.slice a1 0 ac1, .slice a2 0 ac2], .agg #[.slice b1 0 bc1, .slice b2 0 bc2]] w fun e w' => e = .returned (.bool true) ∧ Below w.heap.size w w' := by
  go_enter Tryz.func97, Tryz.ntmps97
  go_upto_region 1 with fail
  generalize hWW : World.alloc (World.alloc w _) _ = W
  have ka : At W w.heap.size 24 #[.slice a1 0 ac1, .slice a2 0 ac2] := by rw [← hWW]; exact (At.new' rfl).al _
  have kb : At W (w.heap.size + 1) 24 #[.slice b1 0 bc1, .slice b2 0 bc2] := by rw [← hWW]; exact At.new' (by simp)
  have HB : Below w.heap.size w W := by rw [← hWW]; exact below_al (below_al (Below.refl _ _) _) _
  have x0 := ka.c 0
  have x1 := ka.c 1
  have y0 := kb.c 0
  have y1 := kb.c 1
  simp only [List.getElem?_toArray, List.getElem?_cons_zero, List.getElem?_cons_succ] at x0 x1 y0 y1
  clear hWW ka kb
  go_wp2_with fail
  go_loopg [5] 0 (fun g i wr => i = .int .i64 0 ∧ W = wr)
  case atStart => exact ⟨rfl, rfl⟩
  case round =>
    obtain ⟨rfl, rfl⟩ := hrel
    go_wp2_with fail
    go_loopg [6] 0 (fun g i wr => i = .int .i64 0 ∧ W = wr)
    case atStart => exact ⟨rfl, rfl⟩
    case round =>
      obtain ⟨rfl, rfl⟩ := hrel
      go_wp2_with fail
      go_ret
      exact ⟨rfl, HB⟩

set_option maxRecDepth 100000 in
set_option maxHeartbeats 2000000 in
theorem same25_nil (a1 a2 a3 a4 a5 a6 b1 b2 b3 b4 b5 b6 : Option Addr) (ac1 ac2 ac3 ac4 ac5 ac6 bc1 bc2 bc3 bc4 bc5 bc6 : Nat) (w : World) : Calls Tryz.prog 59 #[.agg #[.string ⟨#[]⟩, .slice a1 0 ac1, .slice a2 0 ac2, .int .i64 0, .int .i64 0, .int .i64 0, .slice a3 0 ac3, .slice a4 0 ac4, .slice a5 0 ac5, .slice a6 0 ac6, .int .i64 0, .int .i64 0, .int .i64 0, .int .i64 0, .int .i64 0, .int .i64 0, .int .i64 0, .int .i64 0, .int .i64 0], .agg #[.string ⟨#[]⟩, .slice b1 0 bc1, .slice b2 0 bc2, .int .i64 0, .int .i64 0, .int .i64 0, .slice b3 0 bc3, .slice b4 0 bc4, .slice b5 0 bc5, .slice b6 0 bc6, .int .i64 0, .int .i64 0, .int .i64 0, .int .i64 0, .int .i64 0, .int .i64 0, .int .i64 0, .int .i64 0, .int .i64 0]] w fun e w' => e = .returned (.bool true) ∧ Below w.heap.size w w' := by
  go_enter Tryz.func59, Tryz.ntmps59
  go_upto_region 1 with fail
  generalize hWW : World.alloc (World.alloc w _) _ = W
  have ka : At W w.heap.size 34 #[.string ⟨#[]⟩, .slice a1 0 ac1, .slice a2 0 ac2, .int .i64 0, .int .i64 0, .int .i64 0, .slice a3 0 ac3, .slice a4 0 ac4, .slice a5 0 ac5, .slice a6 0 ac6, .int .i64 0, .int .i64 0, .int .i64 0, .int .i64 0, .int .i64 0, .int .i64 0, .int .i64 0, .int .i64 0, .int .i64 0] := by rw [← hWW]; exact (At.new' rfl).al _
  have kb : At W (w.heap.size + 1) 34 #[.string ⟨#[]⟩, .slice b1 0 bc1, .slice b2 0 bc2, .int .i64 0, .int .i64 0, .int .i64 0, .slice b3 0 bc3, .slice b4 0 bc4, .slice b5 0 bc5, .slice b6 0 bc6, .int .i64 0, .int .i64 0, .int .i64 0, .int .i64 0, .int .i64 0, .int .i64 0, .int .i64 0, .int .i64 0, .int .i64 0] := by rw [← hWW]; exact At.new' (by simp)
  have HB : Below w.heap.size w W := by rw [← hWW]; exact below_al (below_al (Below.refl _ _) _) _
  clear hWW
  refine wp_region_noPanic ?_
  refine wp_region_held_drew (S := (fun W' => Below W.heap.size W W')) (by kernel_rfl) ?_ (fun hHeld => ?_)
  · (try dsimp only); (repeat (first | with_reducible assumption | with_reducible exact Below.refl _ _ | with_reducible refine below_al ?_ _ | with_reducible refine below_drew ?_ | (refine below_row ?_ (by first | exact Nat.le_refl _ | (simp; done) | (simp; omega)) _)))
  refine wpAnyH_take (i := 0) (v := ?_) (by simp only [List.getElem?_toArray, List.getElem?_cons_zero]; rfl) (by kernel_rfl) (by kernel_rfl) (by kernel_rfl) (fun _ _ _ h => h) (Or.inl ⟨by rfl, ?_⟩) (by assumption) ?_
  rotate_left
  focus (intro w_ hSw; (try dsimp only at hSw); have Ka := ka.bel hSw; have Kb := kb.bel hSw; have za0 : w_.cell? ⟨w.heap.size, 0, none⟩ = some (.string ⟨#[]⟩) := Ka.c 0; have za1 : w_.cell? ⟨w.heap.size, 1, none⟩ = some (.slice a1 0 ac1) := Ka.c 1; have za2 : w_.cell? ⟨w.heap.size, 2, none⟩ = some (.slice a2 0 ac2) := Ka.c 2; have za3 : w_.cell? ⟨w.heap.size, 3, none⟩ = some (.int .i64 0) := Ka.c 3; have za4 : w_.cell? ⟨w.heap.size, 4, none⟩ = some (.int .i64 0) := Ka.c 4; have za5 : w_.cell? ⟨w.heap.size, 5, none⟩ = some (.int .i64 0) := Ka.c 5; have zb0 : w_.cell? ⟨w.heap.size + 1, 0, none⟩ = some (.string ⟨#[]⟩) := Kb.c 0; have zb1 : w_.cell? ⟨w.heap.size + 1, 1, none⟩ = some (.slice b1 0 bc1) := Kb.c 1; have zb2 : w_.cell? ⟨w.heap.size + 1, 2, none⟩ = some (.slice b2 0 bc2) := Kb.c 2; have zb3 : w_.cell? ⟨w.heap.size + 1, 3, none⟩ = some (.int .i64 0) := Kb.c 3; have zb4 : w_.cell? ⟨w.heap.size + 1, 4, none⟩ = some (.int .i64 0) := Kb.c 4; have zb5 : w_.cell? ⟨w.heap.size + 1, 5, none⟩ = some (.int .i64 0) := Kb.c 5; go_simp; first | done | with_reducible rfl)
  (try simp only [Act.put, List.setIfInBounds_toArray, List.set_cons_zero, List.set_cons_succ])
  refine wpAnyH_take (i := 1) (v := ?_) (by simp only [List.getElem?_toArray, List.getElem?_cons_succ, List.getElem?_cons_zero]; rfl) (by kernel_rfl) (by kernel_rfl) (by kernel_rfl) (fun _ _ _ h => h) (Or.inl ⟨by rfl, ?_⟩) (by assumption) ?_
  rotate_left
  focus (intro w_ hSw; (try dsimp only at hSw); have Ka := ka.bel hSw; have Kb := kb.bel hSw; have za0 : w_.cell? ⟨w.heap.size, 0, none⟩ = some (.string ⟨#[]⟩) := Ka.c 0; have za1 : w_.cell? ⟨w.heap.size, 1, none⟩ = some (.slice a1 0 ac1) := Ka.c 1; have za2 : w_.cell? ⟨w.heap.size, 2, none⟩ = some (.slice a2 0 ac2) := Ka.c 2; have za3 : w_.cell? ⟨w.heap.size, 3, none⟩ = some (.int .i64 0) := Ka.c 3; have za4 : w_.cell? ⟨w.heap.size, 4, none⟩ = some (.int .i64 0) := Ka.c 4; have za5 : w_.cell? ⟨w.heap.size, 5, none⟩ = some (.int .i64 0) := Ka.c 5; have zb0 : w_.cell? ⟨w.heap.size + 1, 0, none⟩ = some (.string ⟨#[]⟩) := Kb.c 0; have zb1 : w_.cell? ⟨w.heap.size + 1, 1, none⟩ = some (.slice b1 0 bc1) := Kb.c 1; have zb2 : w_.cell? ⟨w.heap.size + 1, 2, none⟩ = some (.slice b2 0 bc2) := Kb.c 2; have zb3 : w_.cell? ⟨w.heap.size + 1, 3, none⟩ = some (.int .i64 0) := Kb.c 3; have zb4 : w_.cell? ⟨w.heap.size + 1, 4, none⟩ = some (.int .i64 0) := Kb.c 4; have zb5 : w_.cell? ⟨w.heap.size + 1, 5, none⟩ = some (.int .i64 0) := Kb.c 5; go_simp; first | done | with_reducible rfl)
  (try simp only [Act.put, List.setIfInBounds_toArray, List.set_cons_zero, List.set_cons_succ])
  refine wpAnyH_take (i := 2) (v := ?_) (by simp only [List.getElem?_toArray, List.getElem?_cons_succ, List.getElem?_cons_zero]; rfl) (by kernel_rfl) (by kernel_rfl) (by kernel_rfl) (fun _ _ _ h => h) (Or.inl ⟨by rfl, ?_⟩) (by assumption) ?_
  rotate_left
  focus (intro w_ hSw; (try dsimp only at hSw); have Ka := ka.bel hSw; have Kb := kb.bel hSw; have za0 : w_.cell? ⟨w.heap.size, 0, none⟩ = some (.string ⟨#[]⟩) := Ka.c 0; have za1 : w_.cell? ⟨w.heap.size, 1, none⟩ = some (.slice a1 0 ac1) := Ka.c 1; have za2 : w_.cell? ⟨w.heap.size, 2, none⟩ = some (.slice a2 0 ac2) := Ka.c 2; have za3 : w_.cell? ⟨w.heap.size, 3, none⟩ = some (.int .i64 0) := Ka.c 3; have za4 : w_.cell? ⟨w.heap.size, 4, none⟩ = some (.int .i64 0) := Ka.c 4; have za5 : w_.cell? ⟨w.heap.size, 5, none⟩ = some (.int .i64 0) := Ka.c 5; have zb0 : w_.cell? ⟨w.heap.size + 1, 0, none⟩ = some (.string ⟨#[]⟩) := Kb.c 0; have zb1 : w_.cell? ⟨w.heap.size + 1, 1, none⟩ = some (.slice b1 0 bc1) := Kb.c 1; have zb2 : w_.cell? ⟨w.heap.size + 1, 2, none⟩ = some (.slice b2 0 bc2) := Kb.c 2; have zb3 : w_.cell? ⟨w.heap.size + 1, 3, none⟩ = some (.int .i64 0) := Kb.c 3; have zb4 : w_.cell? ⟨w.heap.size + 1, 4, none⟩ = some (.int .i64 0) := Kb.c 4; have zb5 : w_.cell? ⟨w.heap.size + 1, 5, none⟩ = some (.int .i64 0) := Kb.c 5; go_simp; first | done | with_reducible rfl)
  (try simp only [Act.put, List.setIfInBounds_toArray, List.set_cons_zero, List.set_cons_succ])
  refine wpAnyH_take (i := 3) (v := ?_) (by simp only [List.getElem?_toArray, List.getElem?_cons_succ, List.getElem?_cons_zero]; rfl) (by kernel_rfl) (by kernel_rfl) (by kernel_rfl) (fun _ _ _ h => h) (Or.inl ⟨by rfl, ?_⟩) (by assumption) ?_
  rotate_left
  focus (intro w_ hSw; (try dsimp only at hSw); have Ka := ka.bel hSw; have Kb := kb.bel hSw; have za0 : w_.cell? ⟨w.heap.size, 0, none⟩ = some (.string ⟨#[]⟩) := Ka.c 0; have za1 : w_.cell? ⟨w.heap.size, 1, none⟩ = some (.slice a1 0 ac1) := Ka.c 1; have za2 : w_.cell? ⟨w.heap.size, 2, none⟩ = some (.slice a2 0 ac2) := Ka.c 2; have za3 : w_.cell? ⟨w.heap.size, 3, none⟩ = some (.int .i64 0) := Ka.c 3; have za4 : w_.cell? ⟨w.heap.size, 4, none⟩ = some (.int .i64 0) := Ka.c 4; have za5 : w_.cell? ⟨w.heap.size, 5, none⟩ = some (.int .i64 0) := Ka.c 5; have zb0 : w_.cell? ⟨w.heap.size + 1, 0, none⟩ = some (.string ⟨#[]⟩) := Kb.c 0; have zb1 : w_.cell? ⟨w.heap.size + 1, 1, none⟩ = some (.slice b1 0 bc1) := Kb.c 1; have zb2 : w_.cell? ⟨w.heap.size + 1, 2, none⟩ = some (.slice b2 0 bc2) := Kb.c 2; have zb3 : w_.cell? ⟨w.heap.size + 1, 3, none⟩ = some (.int .i64 0) := Kb.c 3; have zb4 : w_.cell? ⟨w.heap.size + 1, 4, none⟩ = some (.int .i64 0) := Kb.c 4; have zb5 : w_.cell? ⟨w.heap.size + 1, 5, none⟩ = some (.int .i64 0) := Kb.c 5; go_simp; first | done | with_reducible rfl)
  (try simp only [Act.put, List.setIfInBounds_toArray, List.set_cons_zero, List.set_cons_succ])
  refine wpAnyH_ready (rs := [4, 5]) (by kernel_rfl) (by simp) ?_
  refine AllReadyH.cons (i := 4) (by simp only [List.getElem?_toArray, List.getElem?_cons_succ, List.getElem?_cons_zero]; rfl) (fun K hK => ?_) ?_
  · go_simp
    refine hK.out _ _ ?_ (fun hHeld => ?_)
    · (try dsimp only); (repeat (first | with_reducible assumption | with_reducible exact Below.refl _ _ | with_reducible refine below_al ?_ _ | with_reducible refine below_drew ?_))
    clear hK K
    (try simp only [Act.put, List.setIfInBounds_toArray, List.set_cons_zero, List.set_cons_succ])
    refine wpAnyH_ready (rs := [5]) (by kernel_rfl) (by simp) ?_
    refine AllReadyH.cons (i := 5) (by simp only [List.getElem?_toArray, List.getElem?_cons_succ, List.getElem?_cons_zero]; rfl) (fun K hK => ?_) ?_
    · go_simp
      refine hK.out _ _ ?_ (fun hHeld => ?_)
      · (try dsimp only); (repeat (first | with_reducible assumption | with_reducible exact Below.refl _ _ | with_reducible refine below_al ?_ _ | with_reducible refine below_drew ?_))
      clear hK K
      (try simp only [Act.put, List.setIfInBounds_toArray, List.set_cons_zero, List.set_cons_succ])
      generalize hA2 : World.drew (World.alloc (World.alloc W _) _) = A2
      have nx : At A2 (W.heap.size) 26 #[.string ⟨#[]⟩, .slice none 0 0, .slice none 0 0, .int .i64 0, .int .i64 0, .int .i64 0] := by rw [← hA2]; exact ((At.new' (by simp)).al _).drw
      have ny : At A2 (W.heap.size + 1) 26 #[.string ⟨#[]⟩, .slice none 0 0, .slice none 0 0, .int .i64 0, .int .i64 0, .int .i64 0] := by rw [← hA2]; exact (At.new' (by simp)).drw
      have na : At A2 (w.heap.size) 34 #[.string ⟨#[]⟩, .slice a1 0 ac1, .slice a2 0 ac2, .int .i64 0, .int .i64 0, .int .i64 0, .slice a3 0 ac3, .slice a4 0 ac4, .slice a5 0 ac5, .slice a6 0 ac6, .int .i64 0, .int .i64 0, .int .i64 0, .int .i64 0, .int .i64 0, .int .i64 0, .int .i64 0, .int .i64 0, .int .i64 0] := by rw [← hA2]; exact ((ka.al _).al _).drw
      have nb : At A2 (w.heap.size + 1) 34 #[.string ⟨#[]⟩, .slice b1 0 bc1, .slice b2 0 bc2, .int .i64 0, .int .i64 0, .int .i64 0, .slice b3 0 bc3, .slice b4 0 bc4, .slice b5 0 bc5, .slice b6 0 bc6, .int .i64 0, .int .i64 0, .int .i64 0, .int .i64 0, .int .i64 0, .int .i64 0, .int .i64 0, .int .i64 0, .int .i64 0] := by rw [← hA2]; exact ((kb.al _).al _).drw
      have nH : Below w.heap.size w A2 := by rw [← hA2]; exact below_drew (below_al (below_al HB _) _)
      have hlW := kb.lt
      have nB : Below W.heap.size W A2 := by rw [← hA2]; exact below_drew (below_al (below_al (Below.refl _ _) _) _)
      clear hA2
      refine wpAnyH_ready (rs := [6]) (by kernel_rfl) (by simp) ?_
      refine AllReadyH.cons (i := 6) (by simp only [List.getElem?_toArray, List.getElem?_cons_succ, List.getElem?_cons_zero]; rfl) (fun K hK => ?_) ?_
      · refine step_store_row rfl 26 (.tmp 5) (.tmp 9) rfl (W.heap.size) #[.string ⟨#[]⟩, .slice a1 0 ac1, .slice a2 0 ac2, .int .i64 0, .int .i64 0, .int .i64 0] (by simp [Act.eval]) (by simp [Act.eval]) 26 #[.string ⟨#[]⟩, .slice none 0 0, .slice none 0 0, .int .i64 0, .int .i64 0, .int .i64 0] (nx) (by kernel_rfl) (by rfl) (by simp [Value.oneCell']) ?_
        refine hK.out _ _ ?_ (fun hHeld => ?_)
        · (try dsimp only); (repeat (first | with_reducible assumption | (refine below_row ?_ (by omega) _)))
        clear hK K
        (try simp only [Act.put, List.setIfInBounds_toArray, List.set_cons_zero, List.set_cons_succ])
        refine wpAnyH_ready (rs := [7]) (by kernel_rfl) (by simp) ?_
        refine AllReadyH.cons (i := 7) (by simp only [List.getElem?_toArray, List.getElem?_cons_succ, List.getElem?_cons_zero]; rfl) (fun K hK => ?_) ?_
        · refine step_store_row rfl 26 (.tmp 6) (.tmp 11) rfl (W.heap.size + 1) #[.string ⟨#[]⟩, .slice b1 0 bc1, .slice b2 0 bc2, .int .i64 0, .int .i64 0, .int .i64 0] (by simp [Act.eval]) (by simp [Act.eval]) 26 #[.string ⟨#[]⟩, .slice none 0 0, .slice none 0 0, .int .i64 0, .int .i64 0, .int .i64 0] ((setRow_other _ _ _ _ (by omega)).trans ny) (by kernel_rfl) (by rfl) (by simp [Value.oneCell']) ?_
          refine hK.out _ _ ?_ (fun hHeld => ?_)
          · (try dsimp only); (repeat (first | with_reducible assumption | (refine below_row ?_ (by omega) _)))
          clear hK K
          (try simp only [Act.put, List.setIfInBounds_toArray, List.set_cons_zero, List.set_cons_succ])
          refine wpAnyH_done (by kernel_rfl) ?_ _
          refine NoPanic.normal ?_
          generalize hW3 : World.setRow (World.setRow _ _ _) _ _ = v3
          have kx3 : At v3 (W.heap.size) 26 #[.string ⟨#[]⟩, .slice a1 0 ac1, .slice a2 0 ac2, .int .i64 0, .int .i64 0, .int .i64 0] := by rw [← hW3]; exact (setRow_other _ _ _ _ (by omega)).trans (setRow_heap _ _ _ _ _ (0, 0) nx)
          have ky3 : At v3 (W.heap.size + 1) 26 #[.string ⟨#[]⟩, .slice b1 0 bc1, .slice b2 0 bc2, .int .i64 0, .int .i64 0, .int .i64 0] := by rw [← hW3]; exact setRow_heap _ _ _ _ _ (0, 0) ((setRow_other _ _ _ _ (by omega)).trans ny)
          replace ka : At v3 (w.heap.size) 34 #[.string ⟨#[]⟩, .slice a1 0 ac1, .slice a2 0 ac2, .int .i64 0, .int .i64 0, .int .i64 0, .slice a3 0 ac3, .slice a4 0 ac4, .slice a5 0 ac5, .slice a6 0 ac6, .int .i64 0, .int .i64 0, .int .i64 0, .int .i64 0, .int .i64 0, .int .i64 0, .int .i64 0, .int .i64 0, .int .i64 0] := by rw [← hW3]; exact (setRow_other _ _ _ _ (by omega)).trans ((setRow_other _ _ _ _ (by omega)).trans na)
          replace kb : At v3 (w.heap.size + 1) 34 #[.string ⟨#[]⟩, .slice b1 0 bc1, .slice b2 0 bc2, .int .i64 0, .int .i64 0, .int .i64 0, .slice b3 0 bc3, .slice b4 0 bc4, .slice b5 0 bc5, .slice b6 0 bc6, .int .i64 0, .int .i64 0, .int .i64 0, .int .i64 0, .int .i64 0, .int .i64 0, .int .i64 0, .int .i64 0, .int .i64 0] := by rw [← hW3]; exact (setRow_other _ _ _ _ (by omega)).trans ((setRow_other _ _ _ _ (by omega)).trans nb)
          replace HB : Below w.heap.size w v3 := by rw [← hW3]; exact below_row (below_row nH (by omega) _) (by omega) _
          have x0 : v3.cell? ⟨W.heap.size, 0, none⟩ = some (.string ⟨#[]⟩) := kx3.c 0
          have y0 : v3.cell? ⟨W.heap.size + 1, 0, none⟩ = some (.string ⟨#[]⟩) := ky3.c 0
          have x1 : v3.cell? ⟨W.heap.size, 1, none⟩ = some (.slice a1 0 ac1) := kx3.c 1
          have y1 : v3.cell? ⟨W.heap.size + 1, 1, none⟩ = some (.slice b1 0 bc1) := ky3.c 1
          have x2 : v3.cell? ⟨W.heap.size, 2, none⟩ = some (.slice a2 0 ac2) := kx3.c 2
          have y2 : v3.cell? ⟨W.heap.size + 1, 2, none⟩ = some (.slice b2 0 bc2) := ky3.c 2
          have x3 : v3.cell? ⟨W.heap.size, 3, none⟩ = some (.int .i64 0) := kx3.c 3
          have y3 : v3.cell? ⟨W.heap.size + 1, 3, none⟩ = some (.int .i64 0) := ky3.c 3
          have x4 : v3.cell? ⟨W.heap.size, 4, none⟩ = some (.int .i64 0) := kx3.c 4
          have y4 : v3.cell? ⟨W.heap.size + 1, 4, none⟩ = some (.int .i64 0) := ky3.c 4
          have x5 : v3.cell? ⟨W.heap.size, 5, none⟩ = some (.int .i64 0) := kx3.c 5
          have y5 : v3.cell? ⟨W.heap.size + 1, 5, none⟩ = some (.int .i64 0) := ky3.c 5
          clear hW3 nx ny na nb nH
          go_wp2_with fail
          refine (same17_nil a1 a2 b1 b2 ac1 ac2 bc1 bc2 v3).mono ?_
          rintro e v4 ⟨rfl, hb4⟩
          clear x0 y0 x1 y1 x2 y2 x3 y3 x4 y4 x5 y5 kx3 ky3
          replace ka : At v4 (w.heap.size) 34 #[.string ⟨#[]⟩, .slice a1 0 ac1, .slice a2 0 ac2, .int .i64 0, .int .i64 0, .int .i64 0, .slice a3 0 ac3, .slice a4 0 ac4, .slice a5 0 ac5, .slice a6 0 ac6, .int .i64 0, .int .i64 0, .int .i64 0, .int .i64 0, .int .i64 0, .int .i64 0, .int .i64 0, .int .i64 0, .int .i64 0] := ka.bel hb4
          replace kb : At v4 (w.heap.size + 1) 34 #[.string ⟨#[]⟩, .slice b1 0 bc1, .slice b2 0 bc2, .int .i64 0, .int .i64 0, .int .i64 0, .slice b3 0 bc3, .slice b4 0 bc4, .slice b5 0 bc5, .slice b6 0 bc6, .int .i64 0, .int .i64 0, .int .i64 0, .int .i64 0, .int .i64 0, .int .i64 0, .int .i64 0, .int .i64 0, .int .i64 0] := kb.bel hb4
          replace HB := below_then HB hb4
          clear hb4
          have ax6 : v4.cell? ⟨w.heap.size, 6, none⟩ = some (.slice a3 0 ac3) := ka.c 6
          have ax10 : v4.cell? ⟨w.heap.size, 10, none⟩ = some (.int .i64 0) := ka.c 10
          have ax11 : v4.cell? ⟨w.heap.size, 11, none⟩ = some (.int .i64 0) := ka.c 11
          have ax12 : v4.cell? ⟨w.heap.size, 12, none⟩ = some (.int .i64 0) := ka.c 12
          have ax13 : v4.cell? ⟨w.heap.size, 13, none⟩ = some (.int .i64 0) := ka.c 13
          have ax14 : v4.cell? ⟨w.heap.size, 14, none⟩ = some (.int .i64 0) := ka.c 14
          have ax15 : v4.cell? ⟨w.heap.size, 15, none⟩ = some (.int .i64 0) := ka.c 15
          have ax16 : v4.cell? ⟨w.heap.size, 16, none⟩ = some (.int .i64 0) := ka.c 16
          have ax17 : v4.cell? ⟨w.heap.size, 17, none⟩ = some (.int .i64 0) := ka.c 17
          have ax18 : v4.cell? ⟨w.heap.size, 18, none⟩ = some (.int .i64 0) := ka.c 18
          have bx6 : v4.cell? ⟨w.heap.size + 1, 6, none⟩ = some (.slice b3 0 bc3) := kb.c 6
          have bx10 : v4.cell? ⟨w.heap.size + 1, 10, none⟩ = some (.int .i64 0) := kb.c 10
          have bx11 : v4.cell? ⟨w.heap.size + 1, 11, none⟩ = some (.int .i64 0) := kb.c 11
          have bx12 : v4.cell? ⟨w.heap.size + 1, 12, none⟩ = some (.int .i64 0) := kb.c 12
          have bx13 : v4.cell? ⟨w.heap.size + 1, 13, none⟩ = some (.int .i64 0) := kb.c 13
          have bx14 : v4.cell? ⟨w.heap.size + 1, 14, none⟩ = some (.int .i64 0) := kb.c 14
          have bx15 : v4.cell? ⟨w.heap.size + 1, 15, none⟩ = some (.int .i64 0) := kb.c 15
          have bx16 : v4.cell? ⟨w.heap.size + 1, 16, none⟩ = some (.int .i64 0) := kb.c 16
          have bx17 : v4.cell? ⟨w.heap.size + 1, 17, none⟩ = some (.int .i64 0) := kb.c 17
          have bx18 : v4.cell? ⟨w.heap.size + 1, 18, none⟩ = some (.int .i64 0) := kb.c 18
          go_wp2_with fail
          refine (same14_nil a3 b3 ac3 bc3 v4).mono ?_
          rintro e v5 ⟨rfl, hb5⟩
          replace ka : At v5 (w.heap.size) 34 #[.string ⟨#[]⟩, .slice a1 0 ac1, .slice a2 0 ac2, .int .i64 0, .int .i64 0, .int .i64 0, .slice a3 0 ac3, .slice a4 0 ac4, .slice a5 0 ac5, .slice a6 0 ac6, .int .i64 0, .int .i64 0, .int .i64 0, .int .i64 0, .int .i64 0, .int .i64 0, .int .i64 0, .int .i64 0, .int .i64 0] := ka.bel hb5
          replace kb : At v5 (w.heap.size + 1) 34 #[.string ⟨#[]⟩, .slice b1 0 bc1, .slice b2 0 bc2, .int .i64 0, .int .i64 0, .int .i64 0, .slice b3 0 bc3, .slice b4 0 bc4, .slice b5 0 bc5, .slice b6 0 bc6, .int .i64 0, .int .i64 0, .int .i64 0, .int .i64 0, .int .i64 0, .int .i64 0, .int .i64 0, .int .i64 0, .int .i64 0] := kb.bel hb5
          replace HB := below_then HB hb5
          clear hb5 ax6 ax10 ax11 ax12 ax13 ax14 ax15 ax16 ax17 ax18 bx6 bx10 bx11 bx12 bx13 bx14 bx15 bx16 bx17 bx18
          have ax7 : v5.cell? ⟨w.heap.size, 7, none⟩ = some (.slice a4 0 ac4) := ka.c 7
          have bx7 : v5.cell? ⟨w.heap.size + 1, 7, none⟩ = some (.slice b4 0 bc4) := kb.c 7
          go_wp2_with fail
          refine (same16_nil a4 b4 ac4 bc4 v5).mono ?_
          rintro e v6 ⟨rfl, hb6⟩
          replace ka : At v6 (w.heap.size) 34 #[.string ⟨#[]⟩, .slice a1 0 ac1, .slice a2 0 ac2, .int .i64 0, .int .i64 0, .int .i64 0, .slice a3 0 ac3, .slice a4 0 ac4, .slice a5 0 ac5, .slice a6 0 ac6, .int .i64 0, .int .i64 0, .int .i64 0, .int .i64 0, .int .i64 0, .int .i64 0, .int .i64 0, .int .i64 0, .int .i64 0] := ka.bel hb6
          replace kb : At v6 (w.heap.size + 1) 34 #[.string ⟨#[]⟩, .slice b1 0 bc1, .slice b2 0 bc2, .int .i64 0, .int .i64 0, .int .i64 0, .slice b3 0 bc3, .slice b4 0 bc4, .slice b5 0 bc5, .slice b6 0 bc6, .int .i64 0, .int .i64 0, .int .i64 0, .int .i64 0, .int .i64 0, .int .i64 0, .int .i64 0, .int .i64 0, .int .i64 0] := kb.bel hb6
          replace HB := below_then HB hb6
          clear hb6 ax7 bx7
          have ax9 : v6.cell? ⟨w.heap.size, 9, none⟩ = some (.slice a6 0 ac6) := ka.c 9
          have bx9 : v6.cell? ⟨w.heap.size + 1, 9, none⟩ = some (.slice b6 0 bc6) := kb.c 9
          go_wp2_with fail
          refine (same23_nil a6 b6 ac6 bc6 v6).mono ?_
          rintro e v7 ⟨rfl, hb7⟩
          replace ka : At v7 (w.heap.size) 34 #[.string ⟨#[]⟩, .slice a1 0 ac1, .slice a2 0 ac2, .int .i64 0, .int .i64 0, .int .i64 0, .slice a3 0 ac3, .slice a4 0 ac4, .slice a5 0 ac5, .slice a6 0 ac6, .int .i64 0, .int .i64 0, .int .i64 0, .int .i64 0, .int .i64 0, .int .i64 0, .int .i64 0, .int .i64 0, .int .i64 0] := ka.bel hb7
          replace kb : At v7 (w.heap.size + 1) 34 #[.string ⟨#[]⟩, .slice b1 0 bc1, .slice b2 0 bc2, .int .i64 0, .int .i64 0, .int .i64 0, .slice b3 0 bc3, .slice b4 0 bc4, .slice b5 0 bc5, .slice b6 0 bc6, .int .i64 0, .int .i64 0, .int .i64 0, .int .i64 0, .int .i64 0, .int .i64 0, .int .i64 0, .int .i64 0, .int .i64 0] := kb.bel hb7
          replace HB := below_then HB hb7
          clear hb7 ax9 bx9
          have ax8 : v7.cell? ⟨w.heap.size, 8, none⟩ = some (.slice a5 0 ac5) := ka.c 8
          have bx8 : v7.cell? ⟨w.heap.size + 1, 8, none⟩ = some (.slice b5 0 bc5) := kb.c 8
          go_wp2_with fail
          go_loopg [7] 0 (fun g i wr => i = .int .i64 0 ∧ v7 = wr)
          case atStart => exact ⟨rfl, rfl⟩
          case round =>
            obtain ⟨rfl, rfl⟩ := hrel
            go_wp2_with fail
            go_ret
            exact ⟨rfl, HB⟩
        exact AllReadyH.nil
      exact AllReadyH.nil
    exact AllReadyH.nil
  refine AllReadyH.cons (i := 5) (by simp only [List.getElem?_toArray, List.getElem?_cons_succ, List.getElem?_cons_zero]; rfl) (fun K hK => ?_) ?_
  · go_simp
    refine hK.out _ _ ?_ (fun hHeld => ?_)
    · (try dsimp only); (repeat (first | with_reducible assumption | with_reducible exact Below.refl _ _ | with_reducible refine below_al ?_ _ | with_reducible refine below_drew ?_))
    clear hK K
    (try simp only [Act.put, List.setIfInBounds_toArray, List.set_cons_zero, List.set_cons_succ])
    refine wpAnyH_ready (rs := [4]) (by kernel_rfl) (by simp) ?_
    refine AllReadyH.cons (i := 4) (by simp only [List.getElem?_toArray, List.getElem?_cons_succ, List.getElem?_cons_zero]; rfl) (fun K hK => ?_) ?_
    · go_simp
      refine hK.out _ _ ?_ (fun hHeld => ?_)
      · (try dsimp only); (repeat (first | with_reducible assumption | with_reducible exact Below.refl _ _ | with_reducible refine below_al ?_ _ | with_reducible refine below_drew ?_))
      clear hK K
      (try simp only [Act.put, List.setIfInBounds_toArray, List.set_cons_zero, List.set_cons_succ])
      generalize hA2 : World.drew (World.alloc (World.alloc W _) _) = A2
      have nx : At A2 (W.heap.size + 1) 26 #[.string ⟨#[]⟩, .slice none 0 0, .slice none 0 0, .int .i64 0, .int .i64 0, .int .i64 0] := by rw [← hA2]; exact (At.new' (by simp)).drw
      have ny : At A2 (W.heap.size) 26 #[.string ⟨#[]⟩, .slice none 0 0, .slice none 0 0, .int .i64 0, .int .i64 0, .int .i64 0] := by rw [← hA2]; exact ((At.new' (by simp)).al _).drw
      have na : At A2 (w.heap.size) 34 #[.string ⟨#[]⟩, .slice a1 0 ac1, .slice a2 0 ac2, .int .i64 0, .int .i64 0, .int .i64 0, .slice a3 0 ac3, .slice a4 0 ac4, .slice a5 0 ac5, .slice a6 0 ac6, .int .i64 0, .int .i64 0, .int .i64 0, .int .i64 0, .int .i64 0, .int .i64 0, .int .i64 0, .int .i64 0, .int .i64 0] := by rw [← hA2]; exact ((ka.al _).al _).drw
      have nb : At A2 (w.heap.size + 1) 34 #[.string ⟨#[]⟩, .slice b1 0 bc1, .slice b2 0 bc2, .int .i64 0, .int .i64 0, .int .i64 0, .slice b3 0 bc3, .slice b4 0 bc4, .slice b5 0 bc5, .slice b6 0 bc6, .int .i64 0, .int .i64 0, .int .i64 0, .int .i64 0, .int .i64 0, .int .i64 0, .int .i64 0, .int .i64 0, .int .i64 0] := by rw [← hA2]; exact ((kb.al _).al _).drw
      have nH : Below w.heap.size w A2 := by rw [← hA2]; exact below_drew (below_al (below_al HB _) _)
      have hlW := kb.lt
      have nB : Below W.heap.size W A2 := by rw [← hA2]; exact below_drew (below_al (below_al (Below.refl _ _) _) _)
      clear hA2
      refine wpAnyH_ready (rs := [6]) (by kernel_rfl) (by simp) ?_
      refine AllReadyH.cons (i := 6) (by simp only [List.getElem?_toArray, List.getElem?_cons_succ, List.getElem?_cons_zero]; rfl) (fun K hK => ?_) ?_
      · refine step_store_row rfl 26 (.tmp 5) (.tmp 9) rfl (W.heap.size + 1) #[.string ⟨#[]⟩, .slice a1 0 ac1, .slice a2 0 ac2, .int .i64 0, .int .i64 0, .int .i64 0] (by simp [Act.eval]) (by simp [Act.eval]) 26 #[.string ⟨#[]⟩, .slice none 0 0, .slice none 0 0, .int .i64 0, .int .i64 0, .int .i64 0] (nx) (by kernel_rfl) (by rfl) (by simp [Value.oneCell']) ?_
        refine hK.out _ _ ?_ (fun hHeld => ?_)
        · (try dsimp only); (repeat (first | with_reducible assumption | (refine below_row ?_ (by omega) _)))
        clear hK K
        (try simp only [Act.put, List.setIfInBounds_toArray, List.set_cons_zero, List.set_cons_succ])
        refine wpAnyH_ready (rs := [7]) (by kernel_rfl) (by simp) ?_
        refine AllReadyH.cons (i := 7) (by simp only [List.getElem?_toArray, List.getElem?_cons_succ, List.getElem?_cons_zero]; rfl) (fun K hK => ?_) ?_
        · refine step_store_row rfl 26 (.tmp 6) (.tmp 11) rfl (W.heap.size) #[.string ⟨#[]⟩, .slice b1 0 bc1, .slice b2 0 bc2, .int .i64 0, .int .i64 0, .int .i64 0] (by simp [Act.eval]) (by simp [Act.eval]) 26 #[.string ⟨#[]⟩, .slice none 0 0, .slice none 0 0, .int .i64 0, .int .i64 0, .int .i64 0] ((setRow_other _ _ _ _ (by omega)).trans ny) (by kernel_rfl) (by rfl) (by simp [Value.oneCell']) ?_
          refine hK.out _ _ ?_ (fun hHeld => ?_)
          · (try dsimp only); (repeat (first | with_reducible assumption | (refine below_row ?_ (by omega) _)))
          clear hK K
          (try simp only [Act.put, List.setIfInBounds_toArray, List.set_cons_zero, List.set_cons_succ])
          refine wpAnyH_done (by kernel_rfl) ?_ _
          refine NoPanic.normal ?_
          generalize hW3 : World.setRow (World.setRow _ _ _) _ _ = v3
          have kx3 : At v3 (W.heap.size + 1) 26 #[.string ⟨#[]⟩, .slice a1 0 ac1, .slice a2 0 ac2, .int .i64 0, .int .i64 0, .int .i64 0] := by rw [← hW3]; exact (setRow_other _ _ _ _ (by omega)).trans (setRow_heap _ _ _ _ _ (0, 0) nx)
          have ky3 : At v3 (W.heap.size) 26 #[.string ⟨#[]⟩, .slice b1 0 bc1, .slice b2 0 bc2, .int .i64 0, .int .i64 0, .int .i64 0] := by rw [← hW3]; exact setRow_heap _ _ _ _ _ (0, 0) ((setRow_other _ _ _ _ (by omega)).trans ny)
          replace ka : At v3 (w.heap.size) 34 #[.string ⟨#[]⟩, .slice a1 0 ac1, .slice a2 0 ac2, .int .i64 0, .int .i64 0, .int .i64 0, .slice a3 0 ac3, .slice a4 0 ac4, .slice a5 0 ac5, .slice a6 0 ac6, .int .i64 0, .int .i64 0, .int .i64 0, .int .i64 0, .int .i64 0, .int .i64 0, .int .i64 0, .int .i64 0, .int .i64 0] := by rw [← hW3]; exact (setRow_other _ _ _ _ (by omega)).trans ((setRow_other _ _ _ _ (by omega)).trans na)
          replace kb : At v3 (w.heap.size + 1) 34 #[.string ⟨#[]⟩, .slice b1 0 bc1, .slice b2 0 bc2, .int .i64 0, .int .i64 0, .int .i64 0, .slice b3 0 bc3, .slice b4 0 bc4, .slice b5 0 bc5, .slice b6 0 bc6, .int .i64 0, .int .i64 0, .int .i64 0, .int .i64 0, .int .i64 0, .int .i64 0, .int .i64 0, .int .i64 0, .int .i64 0] := by rw [← hW3]; exact (setRow_other _ _ _ _ (by omega)).trans ((setRow_other _ _ _ _ (by omega)).trans nb)
          replace HB : Below w.heap.size w v3 := by rw [← hW3]; exact below_row (below_row nH (by omega) _) (by omega) _
          have x0 : v3.cell? ⟨W.heap.size + 1, 0, none⟩ = some (.string ⟨#[]⟩) := kx3.c 0
          have y0 : v3.cell? ⟨W.heap.size, 0, none⟩ = some (.string ⟨#[]⟩) := ky3.c 0
          have x1 : v3.cell? ⟨W.heap.size + 1, 1, none⟩ = some (.slice a1 0 ac1) := kx3.c 1
          have y1 : v3.cell? ⟨W.heap.size, 1, none⟩ = some (.slice b1 0 bc1) := ky3.c 1
          have x2 : v3.cell? ⟨W.heap.size + 1, 2, none⟩ = some (.slice a2 0 ac2) := kx3.c 2
          have y2 : v3.cell? ⟨W.heap.size, 2, none⟩ = some (.slice b2 0 bc2) := ky3.c 2
          have x3 : v3.cell? ⟨W.heap.size + 1, 3, none⟩ = some (.int .i64 0) := kx3.c 3
          have y3 : v3.cell? ⟨W.heap.size, 3, none⟩ = some (.int .i64 0) := ky3.c 3
          have x4 : v3.cell? ⟨W.heap.size + 1, 4, none⟩ = some (.int .i64 0) := kx3.c 4
          have y4 : v3.cell? ⟨W.heap.size, 4, none⟩ = some (.int .i64 0) := ky3.c 4
          have x5 : v3.cell? ⟨W.heap.size + 1, 5, none⟩ = some (.int .i64 0) := kx3.c 5
          have y5 : v3.cell? ⟨W.heap.size, 5, none⟩ = some (.int .i64 0) := ky3.c 5
          clear hW3 nx ny na nb nH
          go_wp2_with fail
          refine (same17_nil a1 a2 b1 b2 ac1 ac2 bc1 bc2 v3).mono ?_
          rintro e v4 ⟨rfl, hb4⟩
          clear x0 y0 x1 y1 x2 y2 x3 y3 x4 y4 x5 y5 kx3 ky3
          replace ka : At v4 (w.heap.size) 34 #[.string ⟨#[]⟩, .slice a1 0 ac1, .slice a2 0 ac2, .int .i64 0, .int .i64 0, .int .i64 0, .slice a3 0 ac3, .slice a4 0 ac4, .slice a5 0 ac5, .slice a6 0 ac6, .int .i64 0, .int .i64 0, .int .i64 0, .int .i64 0, .int .i64 0, .int .i64 0, .int .i64 0, .int .i64 0, .int .i64 0] := ka.bel hb4
          replace kb : At v4 (w.heap.size + 1) 34 #[.string ⟨#[]⟩, .slice b1 0 bc1, .slice b2 0 bc2, .int .i64 0, .int .i64 0, .int .i64 0, .slice b3 0 bc3, .slice b4 0 bc4, .slice b5 0 bc5, .slice b6 0 bc6, .int .i64 0, .int .i64 0, .int .i64 0, .int .i64 0, .int .i64 0, .int .i64 0, .int .i64 0, .int .i64 0, .int .i64 0] := kb.bel hb4
          replace HB := below_then HB hb4
          clear hb4
          have ax6 : v4.cell? ⟨w.heap.size, 6, none⟩ = some (.slice a3 0 ac3) := ka.c 6
          have ax10 : v4.cell? ⟨w.heap.size, 10, none⟩ = some (.int .i64 0) := ka.c 10
          have ax11 : v4.cell? ⟨w.heap.size, 11, none⟩ = some (.int .i64 0) := ka.c 11
          have ax12 : v4.cell? ⟨w.heap.size, 12, none⟩ = some (.int .i64 0) := ka.c 12
          have ax13 : v4.cell? ⟨w.heap.size, 13, none⟩ = some (.int .i64 0) := ka.c 13
          have ax14 : v4.cell? ⟨w.heap.size, 14, none⟩ = some (.int .i64 0) := ka.c 14
          have ax15 : v4.cell? ⟨w.heap.size, 15, none⟩ = some (.int .i64 0) := ka.c 15
          have ax16 : v4.cell? ⟨w.heap.size, 16, none⟩ = some (.int .i64 0) := ka.c 16
          have ax17 : v4.cell? ⟨w.heap.size, 17, none⟩ = some (.int .i64 0) := ka.c 17
          have ax18 : v4.cell? ⟨w.heap.size, 18, none⟩ = some (.int .i64 0) := ka.c 18
          have bx6 : v4.cell? ⟨w.heap.size + 1, 6, none⟩ = some (.slice b3 0 bc3) := kb.c 6
          have bx10 : v4.cell? ⟨w.heap.size + 1, 10, none⟩ = some (.int .i64 0) := kb.c 10
          have bx11 : v4.cell? ⟨w.heap.size + 1, 11, none⟩ = some (.int .i64 0) := kb.c 11
          have bx12 : v4.cell? ⟨w.heap.size + 1, 12, none⟩ = some (.int .i64 0) := kb.c 12
          have bx13 : v4.cell? ⟨w.heap.size + 1, 13, none⟩ = some (.int .i64 0) := kb.c 13
          have bx14 : v4.cell? ⟨w.heap.size + 1, 14, none⟩ = some (.int .i64 0) := kb.c 14
          have bx15 : v4.cell? ⟨w.heap.size + 1, 15, none⟩ = some (.int .i64 0) := kb.c 15
          have bx16 : v4.cell? ⟨w.heap.size + 1, 16, none⟩ = some (.int .i64 0) := kb.c 16
          have bx17 : v4.cell? ⟨w.heap.size + 1, 17, none⟩ = some (.int .i64 0) := kb.c 17
          have bx18 : v4.cell? ⟨w.heap.size + 1, 18, none⟩ = some (.int .i64 0) := kb.c 18
          go_wp2_with fail
          refine (same14_nil a3 b3 ac3 bc3 v4).mono ?_
          rintro e v5 ⟨rfl, hb5⟩
          replace ka : At v5 (w.heap.size) 34 #[.string ⟨#[]⟩, .slice a1 0 ac1, .slice a2 0 ac2, .int .i64 0, .int .i64 0, .int .i64 0, .slice a3 0 ac3, .slice a4 0 ac4, .slice a5 0 ac5, .slice a6 0 ac6, .int .i64 0, .int .i64 0, .int .i64 0, .int .i64 0, .int .i64 0, .int .i64 0, .int .i64 0, .int .i64 0, .int .i64 0] := ka.bel hb5
          replace kb : At v5 (w.heap.size + 1) 34 #[.string ⟨#[]⟩, .slice b1 0 bc1, .slice b2 0 bc2, .int .i64 0, .int .i64 0, .int .i64 0, .slice b3 0 bc3, .slice b4 0 bc4, .slice b5 0 bc5, .slice b6 0 bc6, .int .i64 0, .int .i64 0, .int .i64 0, .int .i64 0, .int .i64 0, .int .i64 0, .int .i64 0, .int .i64 0, .int .i64 0] := kb.bel hb5
          replace HB := below_then HB hb5
          clear hb5 ax6 ax10 ax11 ax12 ax13 ax14 ax15 ax16 ax17 ax18 bx6 bx10 bx11 bx12 bx13 bx14 bx15 bx16 bx17 bx18
          have ax7 : v5.cell? ⟨w.heap.size, 7, none⟩ = some (.slice a4 0 ac4) := ka.c 7
          have bx7 : v5.cell? ⟨w.heap.size + 1, 7, none⟩ = some (.slice b4 0 bc4) := kb.c 7
          go_wp2_with fail
          refine (same16_nil a4 b4 ac4 bc4 v5).mono ?_
          rintro e v6 ⟨rfl, hb6⟩
          replace ka : At v6 (w.heap.size) 34 #[.string ⟨#[]⟩, .slice a1 0 ac1, .slice a2 0 ac2, .int .i64 0, .int .i64 0, .int .i64 0, .slice a3 0 ac3, .slice a4 0 ac4, .slice a5 0 ac5, .slice a6 0 ac6, .int .i64 0, .int .i64 0, .int .i64 0, .int .i64 0, .int .i64 0, .int .i64 0, .int .i64 0, .int .i64 0, .int .i64 0] := ka.bel hb6
          replace kb : At v6 (w.heap.size + 1) 34 #[.string ⟨#[]⟩, .slice b1 0 bc1, .slice b2 0 bc2, .int .i64 0, .int .i64 0, .int .i64 0, .slice b3 0 bc3, .slice b4 0 bc4, .slice b5 0 bc5, .slice b6 0 bc6, .int .i64 0, .int .i64 0, .int .i64 0, .int .i64 0, .int .i64 0, .int .i64 0, .int .i64 0, .int .i64 0, .int .i64 0] := kb.bel hb6
          replace HB := below_then HB hb6
          clear hb6 ax7 bx7
          have ax9 : v6.cell? ⟨w.heap.size, 9, none⟩ = some (.slice a6 0 ac6) := ka.c 9
          have bx9 : v6.cell? ⟨w.heap.size + 1, 9, none⟩ = some (.slice b6 0 bc6) := kb.c 9
          go_wp2_with fail
          refine (same23_nil a6 b6 ac6 bc6 v6).mono ?_
          rintro e v7 ⟨rfl, hb7⟩
          replace ka : At v7 (w.heap.size) 34 #[.string ⟨#[]⟩, .slice a1 0 ac1, .slice a2 0 ac2, .int .i64 0, .int .i64 0, .int .i64 0, .slice a3 0 ac3, .slice a4 0 ac4, .slice a5 0 ac5, .slice a6 0 ac6, .int .i64 0, .int .i64 0, .int .i64 0, .int .i64 0, .int .i64 0, .int .i64 0, .int .i64 0, .int .i64 0, .int .i64 0] := ka.bel hb7
          replace kb : At v7 (w.heap.size + 1) 34 #[.string ⟨#[]⟩, .slice b1 0 bc1, .slice b2 0 bc2, .int .i64 0, .int .i64 0, .int .i64 0, .slice b3 0 bc3, .slice b4 0 bc4, .slice b5 0 bc5, .slice b6 0 bc6, .int .i64 0, .int .i64 0, .int .i64 0, .int .i64 0, .int .i64 0, .int .i64 0, .int .i64 0, .int .i64 0, .int .i64 0] := kb.bel hb7
          replace HB := below_then HB hb7
          clear hb7 ax9 bx9
          have ax8 : v7.cell? ⟨w.heap.size, 8, none⟩ = some (.slice a5 0 ac5) := ka.c 8
          have bx8 : v7.cell? ⟨w.heap.size + 1, 8, none⟩ = some (.slice b5 0 bc5) := kb.c 8
          go_wp2_with fail
          go_loopg [7] 0 (fun g i wr => i = .int .i64 0 ∧ v7 = wr)
          case atStart => exact ⟨rfl, rfl⟩
          case round =>
            obtain ⟨rfl, rfl⟩ := hrel
            go_wp2_with fail
            go_ret
            exact ⟨rfl, HB⟩
        exact AllReadyH.nil
      exact AllReadyH.nil
    exact AllReadyH.nil
  exact AllReadyH.nil

/-- The cells of a detail without anything. -/
def Emp (cs : Array Value) : Prop := ∃ (a1 a2 a3 a4 a5 a6 : Option Addr) (ac1 ac2 ac3 ac4 ac5 ac6 : Nat), cs = #[.string ⟨#[]⟩, .slice a1 0 ac1, .slice a2 0 ac2, .int .i64 0, .int .i64 0, .int .i64 0, .slice a3 0 ac3, .slice a4 0 ac4, .slice a5 0 ac5, .slice a6 0 ac6, .int .i64 0, .int .i64 0, .int .i64 0, .int .i64 0, .int .i64 0, .int .i64 0, .int .i64 0, .int .i64 0, .int .i64 0]
theorem Emp.size {cs : Array Value} (h : Emp cs) : cs.size = 19 := by
  obtain ⟨a1, a2, a3, a4, a5, a6, c1, c2, c3, c4, c5, c6, rfl⟩ := h
  rfl
theorem Emp.one {cs : Array Value} (h : Emp cs) : cs.all (fun u => u.oneCell') = true := by
  obtain ⟨a1, a2, a3, a4, a5, a6, c1, c2, c3, c4, c5, c6, rfl⟩ := h
  simp [Value.oneCell']
theorem same25_emp (cs ds : Array Value) (h1 : Emp cs) (h2 : Emp ds) (w : World) : Calls Tryz.prog 59 #[.agg cs, .agg ds] w fun e w' => e = .returned (.bool true) ∧ Below w.heap.size w w' := by
  obtain ⟨a1, a2, a3, a4, a5, a6, c1, c2, c3, c4, c5, c6, rfl⟩ := h1
  obtain ⟨b1, b2, b3, b4, b5, b6, d1, d2, d3, d4, d5, d6, rfl⟩ := h2
  exact same25_nil a1 a2 a3 a4 a5 a6 b1 b2 b3 b4 b5 b6 c1 c2 c3 c4 c5 c6 d1 d2 d3 d4 d5 d6 w
set_option maxRecDepth 100000 in
theorem same_emp (cs ds : Array Value) (h1 : Emp cs) (h2 : Emp ds) (w : World) : Calls Tryz.prog 19 #[.agg cs, .agg ds] w fun e w' => e = .returned (.bool true) ∧ Below w.heap.size w w' := by
  have H := Lib.hid (same25_emp cs ds h1 h2)
  have s1 := h1.size
  have s2 := h2.size
  clear h1 h2
  go_enter Tryz.func19, Tryz.ntmps19
  go_upto_region 1 with fail
  generalize hWW : World.alloc (World.alloc w _) _ = W
  have ka : At W w.heap.size 34 cs := by rw [← hWW]; exact (At.new' rfl).al _
  have kb : At W (w.heap.size + 1) 34 ds := by rw [← hWW]; exact At.new' (by simp)
  have HB : Below w.heap.size w W := by rw [← hWW]; exact below_al (below_al (Below.refl _ _) _) _
  clear hWW
  go_wp2_with (first | (refine wpList_load_row rfl 34 (.tmp 2) rfl w.heap.size (by simp [Act.eval]) 34 cs (0, 0) _ ka Tryz.underlying34 rfl (by rw [s1]; kernel_rfl) ?_) | (refine wpList_load_row rfl 34 (.tmp 3) rfl (w.heap.size + 1) (by simp [Act.eval, Act.put]) 34 ds (0, 0) _ kb Tryz.underlying34 rfl (by rw [s2]; kernel_rfl) ?_) | fail)
  refine (H.out W).mono ?_
  rintro e w2 ⟨rfl, hb2⟩
  have HB2 := below_then HB hb2
  go_wp2_with fail
  go_ret
  exact ⟨rfl, HB2⟩
theorem emp_zero : Emp #[.string ⟨#[]⟩, .slice none 0 0, .slice none 0 0, .int .i64 0, .int .i64 0, .int .i64 0, .slice none 0 0, .slice none 0 0, .slice none 0 0, .slice none 0 0, .int .i64 0, .int .i64 0, .int .i64 0, .int .i64 0, .int .i64 0, .int .i64 0, .int .i64 0, .int .i64 0, .int .i64 0] := ⟨none, none, none, none, none, none, 0, 0, 0, 0, 0, 0, rfl⟩
set_option maxRecDepth 100000 in
theorem none_any (cs : Array Value) (h1 : Emp cs) (w : World) : Calls Tryz.prog 23 #[.agg cs] w fun e w' => e = .returned (.bool true) ∧ Below w.heap.size w w' := by
  have H := Lib.hid (same_emp cs _ h1 emp_zero)
  have s1 := h1.size
  clear h1
  go_enter Tryz.func23, Tryz.ntmps23
  go_upto_region 1 with fail
  generalize hWW : World.alloc w _ = W
  have ka : At W w.heap.size 34 cs := by rw [← hWW]; exact At.new' rfl
  have HB : Below w.heap.size w W := by rw [← hWW]; exact below_al (Below.refl _ _) _
  clear hWW
  go_wp2_with (first | (refine wpList_load_row rfl 34 (.tmp 1) rfl w.heap.size (by simp [Act.eval]) 34 cs (0, 0) _ ka Tryz.underlying34 rfl (by rw [s1]; kernel_rfl) ?_) | fail)
  refine (H.out W).mono ?_
  rintro e w2 ⟨rfl, hb2⟩
  have HB2 := below_then HB hb2
  go_wp2_with fail
  go_ret
  exact ⟨rfl, HB2⟩

end Go.Proofs.YtccakklnbhcbdaaGreatDoor
