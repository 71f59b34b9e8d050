import Derived.Test.YtccakklnbhcbdaaGreatDoorFSyS
import Derived.Test.YtccakklnbhcbdaaGreatDoorFSyT
import Derived.Test.YtccakklnbhcbdaaGreatDoorFSyU
import Derived.Test.YtccakklnbhcbdaaGreatDoorFSyV
import Derived.Test.YtccakklnbhcbdaaGreatDoorFSyW
import Derived.Test.YtccakklnbhcbdaaGreatDoorFSyY
import Derived.Test.YtccakklnbhcbdaaGreatDoorFsDcU
import Derived.Test.YtccakklnbhcbdaaGreatDoorFQk
set_option linter.unusedVariables false
set_option linter.unusedSimpArgs false
namespace Go.Proofs.YtccakklnbhcbdaaGreatDoor
open Go.ChangeShapes Go.WideShapes Go.ChangeAt Go.RowKit
theorem putL_any (F : Nat) (d : Det) (p : PV) (w : World) (hF : F ≤ w.heap.size) (hV : RdV w d p) (hy : ∀ b, some b ∈ p.fp → F ≤ b) (hm : manyD d ≤ 1000000) (W : List UInt8) (nm : List UInt8) (n : List Int) (v : Value) (hv : IsI n v w) (hk : ∀ g, v.ownBlock = some g → some g ∉ p.fp) (hw : 0 < leastW W) (hl : if W = wBar then 4 ≤ n.length else n.length = leastW W) (hn : n.length ≤ 1000000) (hst : W = wStep → d.dems ≠ []) :
  Calls Tryz.prog 64 #[.agg (detC d p), .string ⟨W.toArray⟩, .string ⟨nm.toArray⟩, v] w (PutE F w (putD d W nm n)) := by
 by_cases e1 : W = wMember
 ·subst e1
  rw [if_neg (by decide)] at hl
  obtain ⟨a0, a1, a2, rfl⟩ := three (show n.length = 3 from hl)
  exact put_member F d p w hF hV hy hm _ a0 a1 a2 v hv hk nm rfl
 by_cases e2 : W = wBox
 ·subst e2
  rw [if_neg (by decide)] at hl
  obtain ⟨a0, a1, a2, a3, a4, a5, rfl⟩ := six (show n.length = 6 from hl)
  exact put_box F d p w hF hV hy hm _ a0 a1 a2 a3 a4 a5 v hv hk
 by_cases e3 : W = wHole
 ·subst e3
  rw [if_neg (by decide)] at hl
  obtain ⟨a0, a1, a2, a3, a4, a5, rfl⟩ := six (show n.length = 6 from hl)
  exact put_hole F d p w hF hV hy hm _ a0 a1 a2 a3 a4 a5 v hv hk
 by_cases e4 : W = wRule
 ·subst e4
  rw [if_neg (by decide)] at hl
  obtain ⟨a0, a1, a2, a3, a4, a5, a6, a7, a8, rfl⟩ := nine (show n.length = 9 from hl)
  exact put_rule F d p w hF hV hy hm _ a0 a1 a2 a3 a4 a5 a6 a7 a8 v hv hk
 by_cases e5 : W = wBar
 ·subst e5
  rw [if_pos rfl] at hl
  obtain ⟨a0, a1, a2, ds, rfl⟩ := three_more (show 3 ≤ n.length by omega)
  exact put_bar F d p w hF hV hy hm _ a0 a1 a2 ds (by simp at hl hn; omega) v hv hk nm rfl
 by_cases e6 : W = wRun
 ·subst e6
  rw [if_neg (by decide)] at hl
  obtain ⟨a0, a1, a2, a3, a4, a5, a6, a7, a8, rfl⟩ := nine (show n.length = 9 from hl)
  exact put_run F d p w hF hV hy hm _ a0 a1 a2 a3 a4 a5 a6 a7 a8 v hv hk nm rfl
 by_cases e7 : W = wLap
 ·subst e7
  rw [if_neg (by decide)] at hl
  obtain ⟨a0, a1, rfl⟩ := two (show n.length = 2 from hl)
  exact put_lap F d p w hF hV hy hm _ a0 a1 v hv hk
 by_cases e8 : W = wDemand
 ·subst e8
  rw [if_neg (by decide)] at hl
  obtain ⟨a0, a1, a2, a3, a4, a5, rfl⟩ := six (show n.length = 6 from hl)
  exact put_demand F d p w hF hV hy hm _ a0 a1 a2 a3 a4 a5 v hv hk nm rfl
 have e9 : W = wStep := by
  unfold leastW at hw
  rw [if_neg e1, if_neg e2, if_neg e3, if_neg e8, if_neg e4, if_neg e6, if_neg e5, if_neg e7] at hw
  split at hw
  ·assumption
  ·omega
 subst e9
 rw [if_neg (by decide)] at hl
 obtain ⟨a0, a1, rfl⟩ := two (show n.length = 2 from hl)
 exact put_step F d p w hF hV hy hm _ a0 a1 v hv hk (hst rfl)
set_option maxRecDepth 100000 in
theorem rtok_any (S : ByteArray) (w : World) : Calls Tryz.prog 60 #[.string S] w fun e w' => tkR (tokS (by_ S)) w.heap.size e w' ∧ Below w.heap.size w w' := by
 by_cases hS : S.size ≤ 262144
 ·have e : tokS (by_ S) = tokF S.size (by_ S) 1 1 [] := by
   unfold tokS
   rw [if_neg (by rw [by_len]; omega), by_len]
  exact reftokens_core S hS _ (Lib.hid e) w
 ·have e : tokS (by_ S) = ([], (0, 0), 4) := by
   unfold tokS
   rw [if_pos (by rw [by_len]; omega)]
  rw [e]
  have hd : decide ((262144 : Int) < (S.size : Int)) = true := decide_eq_true (by omega)
  go_enter Tryz.func60, Tryz.ntmps60
  go_wp2_with fail
  exact bodyPost_ret (v := .tuple #[.slice none 0 0, .agg #[.int .i64 0, .int .i64 0], .int .i64 4]) (by simp [results, Tryz.results60, go_sem]) rfl ⟨⟨_, rfl, World.ownsRow_nil _ _ _ _⟩, below_al (Below.refl _ _) _⟩
end Go.Proofs.YtccakklnbhcbdaaGreatDoor
