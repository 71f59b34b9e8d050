import Derived.Test.YtccakklnbhcbdaaGreatDoorFSwA
import Derived.Test.YtccakklnbhcbdaaGreatDoorFQf
import Derived.Test.YtccakklnbhcbdaaGreatDoorFQg
set_option linter.unusedVariables false
namespace Go.Proofs.YtccakklnbhcbdaaGreatDoor
open Go.ChangeShapes Go.WideShapes Go.ChangeAt Go.RowKit
def IsI (l : List Int) (v : Value) (w : World) : Prop := ∃ a c, v = .slice a l.length c ∧ l.length ≤ c ∧ c ≤ 9223372036854775807 ∧ RowAt encZ 1 w.heap.size w a l
theorem IsI.up {l : List Int} {v : Value} {w w' : World} (h : IsI l v w) (hb : Below w.heap.size w w') : IsI l v w' := by
 obtain ⟨a, c, h1, h2, h3, h4⟩ := h
 exact ⟨a, c, h1, h2, h3, (h4.bel (Nat.le_refl _) hb).mono hb.size⟩
theorem encZ_len (n : Int) : (encZ n).length = 1 := rfl
theorem isI_new {w : World} {g : Nat} {l : List Int} (h : At w g 3 (l.map (.int .i64 ·)).toArray) (hl : l.length ≤ 9223372036854775807) : IsI l (.slice (some ⟨g, 0, none⟩) l.length l.length) w := by
 refine ⟨_, _, rfl, Nat.le_refl _, hl, fun k hk => ⟨g, 0, rfl, h.lt, fun j u hu => ?_⟩⟩
 have hj : j = 0 := by
  have := (List.getElem?_eq_some_iff.1 hu).1
  simp [encZ] at this
  exact this
 subst hj
 rw [h.c]
 simp [encZ] at hu
 simp [hk, hu]
theorem row_isI {w : World} {v : Value} {l : List Int} (h : Row w 3 1 encZ v l) : IsI l v w := by
 obtain ⟨a, c, h1, h2, h3, h4, _⟩ := h.view encZ_len
 exact ⟨a, c, h1, h2, h3, h4⟩
def bigN (n : Int) : Bool := decide (n < -999999999999999) || decide (999999999999999 < n)
theorem fit_big (l : List Int) : (!l.any bigN) = fitB l := by
 unfold fitB
 induction l with
 | nil => rfl
 | cons a l ih =>
  rw [List.any_cons, List.all_cons, ← ih]
  have : (!bigN a) = (decide (-999999999999999 ≤ a) && decide (a ≤ 999999999999999)) := by
   unfold bigN
   by_cases h1 : a < -999999999999999 <;> by_cases h2 : 999999999999999 < a <;> simp [h1, h2] <;> omega
  rw [← this]
  cases bigN a <;> simp
set_option maxRecDepth 100000 in
set_option maxHeartbeats 1000000 in
theorem big_any (n : Int) (w : World) : Calls Tryz.prog 75 #[.int .i64 n] w fun e w' => e = .returned (.bool (bigN n)) ∧ Below w.heap.size w w' := by
 by_cases h1 : n < -999999999999999
 ·have hb : bigN n = true := by unfold bigN; rw [decide_eq_true h1]; rfl
  have e1 : decide (n < -999999999999999) = true := decide_eq_true h1
  rw [hb]
  clear hb h1
  go_enter Tryz.func75, Tryz.ntmps75
  go_wp2_with fail
  go_ret
  exact ⟨rfl, Below.refl _ _⟩
 ·by_cases h2 : 999999999999999 < n
  ·have hb : bigN n = true := by unfold bigN; rw [decide_eq_true h2, Bool.or_true]
   have e1 : decide (n < -999999999999999) = false := decide_eq_false h1
   have e2 : decide (999999999999999 < n) = true := decide_eq_true h2
   rw [hb]
   clear hb h1 h2
   go_enter Tryz.func75, Tryz.ntmps75
   go_wp2_with fail
   go_ret
   exact ⟨rfl, Below.refl _ _⟩
  ·have hb : bigN n = false := by unfold bigN; rw [decide_eq_false h1, decide_eq_false h2]; rfl
   have e1 : decide (n < -999999999999999) = false := decide_eq_false h1
   have e2 : decide (999999999999999 < n) = false := decide_eq_false h2
   rw [hb]
   clear hb h1 h2
   go_enter Tryz.func75, Tryz.ntmps75
   go_wp2_with fail
   go_ret
   exact ⟨rfl, Below.refl _ _⟩
set_option maxRecDepth 100000 in
set_option maxHeartbeats 1000000 in
theorem fits_any (l : List Int) (v : Value) (w : World) (hv : IsI l v w) : Calls Tryz.prog 39 #[v] w fun e w' => e = .returned (.bool (fitB l)) ∧ Below w.heap.size w w' := by
 obtain ⟨a, c, rfl, h2, h3, h4⟩ := hv
 have HC := Lib.hid (contInt l a c h2 h3 _ w (Nat.le_refl _) (Lib.hid h4) 75 (fun args w => by simp [go_sem]) bigN (Lib.hid fun x _ W _ => big_any x W))
 have hf := fit_big l
 generalize l.any bigN = b at *
 replace hf := Lib.hid hf
 generalize l.length = n at *
 clear h2 h4
 cases b
 ·go_enter Tryz.func39, Tryz.ntmps39
  go_wp2_with fail
  refine HC.out.mono ?_
  rintro e w1 ⟨rfl, HB⟩
  go_wp2_with fail
  go_ret
  exact ⟨by rw [← hf.out]; rfl, HB⟩
 ·go_enter Tryz.func39, Tryz.ntmps39
  go_wp2_with fail
  refine HC.out.mono ?_
  rintro e w1 ⟨rfl, HB⟩
  go_wp2_with fail
  go_ret
  exact ⟨by rw [← hf.out]; rfl, HB⟩
set_option maxRecDepth 100000 in
set_option maxHeartbeats 1000000 in
theorem coords_any (a b c d f g : Int) (w : World) : Calls Tryz.prog 33 #[.agg #[.int .i64 a, .int .i64 b, .int .i64 c, .int .i64 d, .int .i64 f, .int .i64 g]] w fun e w' => (∃ v, e = .returned v ∧ IsI [a, b, c, d, f, g] v w') ∧ Below w.heap.size w w' := by
 go_enter Tryz.func33, Tryz.ntmps33
 go_wp2_with fail
 generalize hWW : World.alloc (World.alloc w _) _ = WW
 have kz : At WW (w.heap.size + 1) 3 #[.int .i64 a, .int .i64 b, .int .i64 c, .int .i64 d, .int .i64 f, .int .i64 g] := by rw [← hWW]; repeat (first | (with_reducible apply At.new'; (focus (simp; done))) | with_reducible apply At.al | with_reducible apply At.drw | with_reducible apply At.dr)
 have HB : Below w.heap.size w WW := by rw [← hWW]; repeat (first | with_reducible assumption | with_reducible exact Below.refl _ _ | with_reducible refine below_al ?_ _ | with_reducible refine below_drew ?_ | with_reducible refine below_drewN ?_ _ | with_reducible refine below_set ?_ (by dsimp only; omega) _)
 clear hWW
 go_ret
 exact ⟨⟨_, rfl, isI_new (l := [a, b, c, d, f, g]) kz (by simp)⟩, HB⟩
set_option maxRecDepth 100000 in
set_option maxHeartbeats 1000000 in
theorem rule_any (a b c d f g h i j : Int) (w : World) : Calls Tryz.prog 34 #[.agg #[.int .i64 a, .int .i64 b, .int .i64 c, .int .i64 d, .int .i64 f, .int .i64 g, .int .i64 h, .int .i64 i, .int .i64 j]] w fun e w' => (∃ v, e = .returned v ∧ IsI [a, b, c, d, f, g, h, i, j] v w') ∧ Below w.heap.size w w' := by
 go_enter Tryz.func34, Tryz.ntmps34
 go_wp2_with fail
 generalize hWW : World.alloc (World.alloc w _) _ = WW
 have kz : At WW (w.heap.size + 1) 3 #[.int .i64 a, .int .i64 b, .int .i64 c, .int .i64 d, .int .i64 f, .int .i64 g, .int .i64 h, .int .i64 i, .int .i64 j] := by rw [← hWW]; repeat (first | (with_reducible apply At.new'; (focus (simp; done))) | with_reducible apply At.al | with_reducible apply At.drw | with_reducible apply At.dr)
 have HB : Below w.heap.size w WW := by rw [← hWW]; repeat (first | with_reducible assumption | with_reducible exact Below.refl _ _ | with_reducible refine below_al ?_ _ | with_reducible refine below_drew ?_ | with_reducible refine below_drewN ?_ _ | with_reducible refine below_set ?_ (by dsimp only; omega) _)
 clear hWW
 go_ret
 exact ⟨⟨_, rfl, isI_new (l := [a, b, c, d, f, g, h, i, j]) kz (by simp)⟩, HB⟩
set_option maxRecDepth 100000 in
set_option maxHeartbeats 1000000 in
theorem run_any (a b c d f g h i j : Int) (s : ByteArray) (w : World) : Calls Tryz.prog 35 #[.agg #[.string s, .int .i64 a, .int .i64 b, .int .i64 c, .int .i64 d, .int .i64 f, .int .i64 g, .int .i64 h, .int .i64 i, .int .i64 j]] w fun e w' => (∃ v, e = .returned v ∧ IsI [a, b, c, d, f, g, h, i, j] v w') ∧ Below w.heap.size w w' := by
 go_enter Tryz.func35, Tryz.ntmps35
 go_wp2_with fail
 generalize hWW : World.alloc (World.alloc w _) _ = WW
 have kz : At WW (w.heap.size + 1) 3 #[.int .i64 a, .int .i64 b, .int .i64 c, .int .i64 d, .int .i64 f, .int .i64 g, .int .i64 h, .int .i64 i, .int .i64 j] := by rw [← hWW]; repeat (first | (with_reducible apply At.new'; (focus (simp; done))) | with_reducible apply At.al | with_reducible apply At.drw | with_reducible apply At.dr)
 have HB : Below w.heap.size w WW := by rw [← hWW]; repeat (first | with_reducible assumption | with_reducible exact Below.refl _ _ | with_reducible refine below_al ?_ _ | with_reducible refine below_drew ?_ | with_reducible refine below_drewN ?_ _ | with_reducible refine below_set ?_ (by dsimp only; omega) _)
 clear hWW
 go_ret
 exact ⟨⟨_, rfl, isI_new (l := [a, b, c, d, f, g, h, i, j]) kz (by simp)⟩, HB⟩
end Go.Proofs.YtccakklnbhcbdaaGreatDoor
set_option linter.unusedVariables false
set_option linter.unusedSimpArgs false
namespace Go.Proofs.YtccakklnbhcbdaaGreatDoor
open Go.ChangeShapes Go.WideShapes Go.ChangeAt Go.RowKit
theorem fitB_two (l m : List Int) : fitB (l ++ m) = (fitB l && fitB m) := by unfold fitB; rw [List.all_append]
theorem three_more {l : List Int} (h : 3 ≤ l.length) : ∃ a b c r, l = a :: b :: c :: r := by
 match l, h with
 | a :: b :: c :: r, _ => exact ⟨a, b, c, r, rfl⟩
theorem nameH (nm : List UInt8) (hm : nm.length ≤ 1000000) (NM : ByteArray) (hN : NM = ⟨nm.toArray⟩) : Hid (∀ w, Calls Tryz.prog 40 #[.string NM] w fun e w' => e = .returned (.bool (nameB nm)) ∧ Below w.heap.size w w') := Lib.hid fun w => by
 have hs : NM.size = nm.length := by rw [hN, mk_size]
 have h := isName_any NM (by rw [hs]; omega) w
 have e : by_ NM = nm := by subst hN; exact mk_by nm
 rw [e] at h
 exact h
theorem fitH (l : List Int) : Hid (∀ v w, IsI l v w → Calls Tryz.prog 39 #[v] w fun e w' => e = .returned (.bool (fitB l)) ∧ Below w.heap.size w w') := Lib.hid fun v w h => fits_any l v w h
set_option maxRecDepth 100000 in
set_option maxHeartbeats 1000000 in
theorem wideB_any (n : List Int) (hn : n.length = 6) (w : World) : Calls Tryz.prog 38 #[.agg (encK 6 n).toArray] w fun e w' => e = .returned (.bool (!fitB n)) ∧ Below w.heap.size w w' := by
 obtain ⟨a, b, c, d, f, g, rfl⟩ := six hn
 have HF := fitH [a, b, c, d, f, g]
 obtain ⟨B, hB⟩ : ∃ B, fitB [a, b, c, d, f, g] = B := ⟨_, rfl⟩
 rw [hB] at HF ⊢
 clear hB
 show Calls _ _ #[.agg #[.int .i64 a, .int .i64 b, .int .i64 c, .int .i64 d, .int .i64 f, .int .i64 g]] _ _
 go_enter Tryz.func38, Tryz.ntmps38
 go_wp2_with fail
 refine (coords_any a b c d f g _).mono ?_
 rintro e w1 ⟨⟨v, rfl, hv⟩, HB1⟩
 have HB := below_then (below_al (Below.refl _ _) _) HB1
 clear HB1
 go_wp2_with fail
 refine (HF.out v w1 hv).mono ?_
 rintro e w2 ⟨rfl, HB2⟩
 replace HB := below_then HB HB2
 cases B
 ·go_wp2_with fail
  go_ret
  exact ⟨rfl, HB⟩
 ·go_wp2_with fail
  go_ret
  exact ⟨rfl, HB⟩
set_option maxRecDepth 100000 in
set_option maxHeartbeats 1000000 in
theorem wideL_any (n : List Int) (hn : n.length = 2) (w : World) : Calls Tryz.prog 47 #[.agg (encK 2 n).toArray] w fun e w' => e = .returned (.bool (!fitB n)) ∧ Below w.heap.size w w' := by
 obtain ⟨a, b, rfl⟩ := two hn
 have HF := fitH [a, b]
 obtain ⟨B, hB⟩ : ∃ B, fitB [a, b] = B := ⟨_, rfl⟩
 rw [hB] at HF ⊢
 clear hB
 show Calls _ _ #[.agg #[.int .i64 a, .int .i64 b]] _ _
 go_enter Tryz.func47, Tryz.ntmps47
 go_wp2_with fail
 generalize hWW : World.alloc (World.alloc w _) _ = WW
 have kz : At WW (w.heap.size + 1) 3 #[.int .i64 a, .int .i64 b] := by rw [← hWW]; repeat (first | (with_reducible apply At.new'; (focus (simp; done))) | with_reducible apply At.al | with_reducible apply At.drw | with_reducible apply At.dr)
 have HB : Below w.heap.size w WW := by rw [← hWW]; repeat (first | with_reducible assumption | with_reducible exact Below.refl _ _ | with_reducible refine below_al ?_ _ | with_reducible refine below_drew ?_ | with_reducible refine below_drewN ?_ _ | with_reducible refine below_set ?_ (by dsimp only; omega) _)
 clear hWW
 refine (HF.out _ WW (isI_new (l := [a, b]) kz (by simp))).mono ?_
 rintro e w2 ⟨rfl, HB2⟩
 replace HB := below_then HB HB2
 cases B
 ·go_wp2_with fail
  go_ret
  exact ⟨rfl, HB⟩
 ·go_wp2_with fail
  go_ret
  exact ⟨rfl, HB⟩
set_option maxRecDepth 100000 in
set_option maxHeartbeats 1000000 in
theorem wideS_any (n : List Int) (hn : n.length = 2) (w : World) : Calls Tryz.prog 84 #[.agg (encK 2 n).toArray] w fun e w' => e = .returned (.bool (!fitB n)) ∧ Below w.heap.size w w' := by
 obtain ⟨a, b, rfl⟩ := two hn
 have HF := fitH [a, b]
 obtain ⟨B, hB⟩ : ∃ B, fitB [a, b] = B := ⟨_, rfl⟩
 rw [hB] at HF ⊢
 clear hB
 show Calls _ _ #[.agg #[.int .i64 a, .int .i64 b]] _ _
 go_enter Tryz.func84, Tryz.ntmps84
 go_wp2_with fail
 generalize hWW : World.alloc (World.alloc w _) _ = WW
 have kz : At WW (w.heap.size + 1) 3 #[.int .i64 a, .int .i64 b] := by rw [← hWW]; repeat (first | (with_reducible apply At.new'; (focus (simp; done))) | with_reducible apply At.al | with_reducible apply At.drw | with_reducible apply At.dr)
 have HB : Below w.heap.size w WW := by rw [← hWW]; repeat (first | with_reducible assumption | with_reducible exact Below.refl _ _ | with_reducible refine below_al ?_ _ | with_reducible refine below_drew ?_ | with_reducible refine below_drewN ?_ _ | with_reducible refine below_set ?_ (by dsimp only; omega) _)
 clear hWW
 refine (HF.out _ WW (isI_new (l := [a, b]) kz (by simp))).mono ?_
 rintro e w2 ⟨rfl, HB2⟩
 replace HB := below_then HB HB2
 cases B
 ·go_wp2_with fail
  go_ret
  exact ⟨rfl, HB⟩
 ·go_wp2_with fail
  go_ret
  exact ⟨rfl, HB⟩
set_option maxRecDepth 100000 in
set_option maxHeartbeats 1000000 in
theorem wideN_any (x : List UInt8 × List Int) (hx : x.2.length = 9) (hm : x.1.length ≤ 1000000) (w : World) : Calls Tryz.prog 45 #[.agg (encU x).toArray] w fun e w' => e = .returned (.bool (!runOk x)) ∧ Below w.heap.size w w' := by
 obtain ⟨nm, l⟩ := x
 obtain ⟨a, b, c, d, f, g, h, i, j, rfl⟩ := nine hx
 obtain ⟨NM, hNM⟩ : ∃ NM : ByteArray, NM = ⟨nm.toArray⟩ := ⟨_, rfl⟩
 have HN := nameH nm hm NM hNM
 have HF := fitH [a, b, c, d, f, g, h, i, j]
 have hres : Hid ((!runOk (nm, [a, b, c, d, f, g, h, i, j])) = !(nameB nm && fitB [a, b, c, d, f, g, h, i, j])) := Lib.hid rfl
 rw [show (encU (nm, [a, b, c, d, f, g, h, i, j])).toArray = #[.string NM, .int .i64 a, .int .i64 b, .int .i64 c, .int .i64 d, .int .i64 f, .int .i64 g, .int .i64 h, .int .i64 i, .int .i64 j] by rw [hNM]; rfl]
 generalize (!runOk (nm, [a, b, c, d, f, g, h, i, j])) = Rs at *
 generalize nameB nm = N1 at *
 generalize fitB [a, b, c, d, f, g, h, i, j] = B at *
 clear hNM hx hm
 go_enter Tryz.func45, Tryz.ntmps45
 go_wp2_with fail
 refine (HN.out _).mono ?_
 rintro e w1 ⟨rfl, HBn⟩
 have kt : At w1 w.heap.size 81 #[.string NM, .int .i64 a, .int .i64 b, .int .i64 c, .int .i64 d, .int .i64 f, .int .i64 g, .int .i64 h, .int .i64 i, .int .i64 j] := (At.new' rfl).bel HBn
 have q0 : w1.cell? ⟨w.heap.size, 0, none⟩ = some (.string NM) := kt.c 0
 have q1 : w1.cell? ⟨w.heap.size, 1, none⟩ = some (.int .i64 a) := kt.c 1
 have q2 : w1.cell? ⟨w.heap.size, 2, none⟩ = some (.int .i64 b) := kt.c 2
 have q3 : w1.cell? ⟨w.heap.size, 3, none⟩ = some (.int .i64 c) := kt.c 3
 have q4 : w1.cell? ⟨w.heap.size, 4, none⟩ = some (.int .i64 d) := kt.c 4
 have q5 : w1.cell? ⟨w.heap.size, 5, none⟩ = some (.int .i64 f) := kt.c 5
 have q6 : w1.cell? ⟨w.heap.size, 6, none⟩ = some (.int .i64 g) := kt.c 6
 have q7 : w1.cell? ⟨w.heap.size, 7, none⟩ = some (.int .i64 h) := kt.c 7
 have q8 : w1.cell? ⟨w.heap.size, 8, none⟩ = some (.int .i64 i) := kt.c 8
 have q9 : w1.cell? ⟨w.heap.size, 9, none⟩ = some (.int .i64 j) := kt.c 9
 have HB := below_then (below_al (Below.refl _ _) _) HBn
 clear HBn kt
 cases N1
 ·go_wp2_with fail
  go_ret
  exact ⟨by rw [hres.out]; rfl, HB⟩
 ·go_wp2_with fail
  refine (run_any a b c d f g h i j NM _).mono ?_
  rintro e w2 ⟨⟨v, rfl, hv⟩, HBn⟩
  replace HB := below_then HB HBn
  clear HBn
  go_wp2_with fail
  refine (HF.out v w2 hv).mono ?_
  rintro e w3 ⟨rfl, HBn⟩
  replace HB := below_then HB HBn
  cases B
  ·go_wp2_with fail
   go_ret
   exact ⟨by rw [hres.out]; rfl, HB⟩
  ·go_wp2_with fail
   go_ret
   exact ⟨by rw [hres.out]; rfl, HB⟩
set_option maxRecDepth 100000 in
set_option maxHeartbeats 1000000 in
theorem wideR_any (x : List UInt8 × List Int) (dv : Value) (hx : 3 ≤ x.2.length) (hm : x.1.length ≤ 1000000) (w : World) (hd : IsI (x.2.drop 3) dv w) : Calls Tryz.prog 43 #[.agg (encR (x, dv)).toArray] w fun e w' => e = .returned (.bool (!barOk x)) ∧ Below w.heap.size w w' := by
 obtain ⟨nm, l⟩ := x
 obtain ⟨a, b, c, ds, rfl⟩ := three_more hx
 obtain ⟨NM, hNM⟩ : ∃ NM : ByteArray, NM = ⟨nm.toArray⟩ := ⟨_, rfl⟩
 have HN := nameH nm hm NM hNM
 have HF := fitH [a, b, c]
 obtain ⟨sa, sc, hdv, h2, h3, h4⟩ := hd
 have h4 : RowAt encZ 1 w.heap.size w sa ds := h4
 have HD : Hid (∀ w', Below w.heap.size w w' → Calls Tryz.prog 39 #[.slice sa ds.length sc] w' fun e w2 => e = .returned (.bool (fitB ds)) ∧ Below w'.heap.size w' w2) := Lib.hid fun w' hb => fits_any ds _ w' (IsI.up ⟨sa, sc, rfl, h2, h3, h4⟩ hb)
 have hres : Hid ((!barOk (nm, a :: b :: c :: ds)) = !(nameB nm && decide (1 ≤ ds.length) && decide (ds.length ≤ 8) && fitB [a, b, c] && fitB ds)) := Lib.hid (by
  have e1 : decide (4 ≤ (a :: b :: c :: ds).length) = decide (1 ≤ ds.length) := decide_eq_decide.2 (by simp)
  have e2 : decide ((a :: b :: c :: ds).length ≤ 11) = decide (ds.length ≤ 8) := decide_eq_decide.2 (by simp)
  have e3 : fitB (a :: b :: c :: ds) = (fitB [a, b, c] && fitB ds) := fitB_two [a, b, c] ds
  unfold barOk
  dsimp only
  rw [e1, e2, e3, Bool.and_assoc (nameB nm && decide (1 ≤ ds.length) && decide (ds.length ≤ 8))])
 obtain ⟨n, hn⟩ : ∃ n, ds.length = n := ⟨_, rfl⟩
 rw [show (encR ((nm, a :: b :: c :: ds), dv)).toArray = #[.string NM, .int .i64 a, .int .i64 b, .int .i64 c, .slice sa n sc] by rw [hdv, hNM, ← hn]; rfl]
 rw [hn] at HD hres
 generalize (!barOk (nm, a :: b :: c :: ds)) = Rs at *
 generalize nameB nm = N1 at *
 generalize fitB [a, b, c] = F1 at *
 generalize fitB ds = F2 at *
 clear hNM hx hm hdv h2 h4 hn
 go_enter Tryz.func43, Tryz.ntmps43
 go_wp2_with fail
 refine (HN.out _).mono ?_
 rintro e w1 ⟨rfl, HBn⟩
 have kt : At w1 w.heap.size 56 #[.string NM, .int .i64 a, .int .i64 b, .int .i64 c, .slice sa n sc] := (At.new' rfl).bel HBn
 have q0 : w1.cell? ⟨w.heap.size, 0, none⟩ = some (.string NM) := kt.c 0
 have q1 : w1.cell? ⟨w.heap.size, 1, none⟩ = some (.int .i64 a) := kt.c 1
 have q2 : w1.cell? ⟨w.heap.size, 2, none⟩ = some (.int .i64 b) := kt.c 2
 have q3 : w1.cell? ⟨w.heap.size, 3, none⟩ = some (.int .i64 c) := kt.c 3
 have q4 : w1.cell? ⟨w.heap.size, 4, none⟩ = some (.slice sa n sc) := kt.c 4
 have HB := below_then (below_al (Below.refl _ _) _) HBn
 clear HBn kt
 cases N1
 ·go_wp2_with fail
  go_ret
  exact ⟨by rw [hres.out]; rfl, HB⟩
 ·by_cases l1 : n < 1
  ·have l1' : decide ((n : Int) < 1) = true := decide_eq_true (by omega)
   have e0 : decide (1 ≤ n) = false := decide_eq_false (by omega)
   go_wp2_with fail
   go_ret
   exact ⟨by rw [hres.out]; rw [e0]; rfl, HB⟩
  ·have l1' : decide ((n : Int) < 1) = false := decide_eq_false (by omega)
   have e0 : decide (1 ≤ n) = true := decide_eq_true (by omega)
   by_cases l2 : 8 < n
   ·have l2' : decide ((8 : Int) < (n : Int)) = true := decide_eq_true (by omega)
    have e1 : decide (n ≤ 8) = false := decide_eq_false (by omega)
    go_wp2_with fail
    go_ret
    exact ⟨by rw [hres.out]; rw [e0, e1]; rfl, HB⟩
   ·have l2' : decide ((8 : Int) < (n : Int)) = false := decide_eq_false (by omega)
    have e1 : decide (n ≤ 8) = true := decide_eq_true (by omega)
    replace hres := Lib.hid (show Rs = !(F1 && F2) by rw [hres.out, e0, e1]; rfl)
    clear e0 e1
    go_wp2_with fail
    generalize hWW : World.alloc w1 _ = WW
    have kz : At WW w1.heap.size 3 #[.int .i64 a, .int .i64 b, .int .i64 c] := by rw [← hWW]; apply At.new'; rfl
    have HW : Below w1.heap.size w1 WW := by rw [← hWW]; exact below_al (Below.refl _ _) _
    have q4' : WW.cell? ⟨w.heap.size, 4, none⟩ = some (.slice sa n sc) := (HW.cell (block_lt_of_cell q4)).trans q4
    replace HB := below_then HB HW
    clear hWW HW
    refine (HF.out _ WW (isI_new (l := [a, b, c]) kz (by simp))).mono ?_
    rintro e w2 ⟨rfl, HBn⟩
    have q4'' : w2.cell? ⟨w.heap.size, 4, none⟩ = some (.slice sa n sc) := (HBn.cell (block_lt_of_cell q4')).trans q4'
    replace HB := below_then HB HBn
    clear HBn q4' kz
    cases F1
    ·go_wp2_with fail
     go_ret
     exact ⟨by rw [hres.out]; rfl, HB⟩
    ·go_wp2_with fail
     refine (HD.out w2 HB).mono ?_
     rintro e w3 ⟨rfl, HBn⟩
     replace HB := below_then HB HBn
     cases F2
     ·go_wp2_with fail
      go_ret
      exact ⟨by rw [hres.out]; rfl, HB⟩
     ·go_wp2_with fail
      go_ret
      exact ⟨by rw [hres.out]; rfl, HB⟩
def IsSt (l : List (List Int)) (v : Value) (w : World) : Prop := ∃ a c, v = .slice a l.length c ∧ l.length ≤ c ∧ c ≤ 9223372036854775807 ∧ RowAt (encK 2) 2 w.heap.size w a l
theorem IsSt.up {l : List (List Int)} {v : Value} {w w' : World} (h : IsSt l v w) (hb : Below w.heap.size w w') : IsSt l v w' := by
 obtain ⟨a, c, h1, h2, h3, h4⟩ := h
 exact ⟨a, c, h1, h2, h3, (h4.bel (Nat.le_refl _) hb).mono hb.size⟩
theorem row_isSt {w : World} {v : Value} {l : List (List Int)} (h : Row w 86 2 (encK 2) v l) : IsSt l v w := by
 obtain ⟨a, c, h1, h2, h3, h4, _⟩ := h.view (encK_len 2)
 exact ⟨a, c, h1, h2, h3, h4⟩
theorem all_any {α : Type} (l : List α) (p q : α → Bool) (h : ∀ x, p x = !q x) : l.any p = !l.all q := by
 induction l with
 | nil => rfl
 | cons a l ih => rw [List.any_cons, List.all_cons, ih, h]; cases q a <;> rfl
theorem steps_any (l : List (List Int)) (hl : ∀ n ∈ l, n.length = 2) (v : Value) (w : World) (hv : IsSt l v w) : Calls Tryz.prog 83 #[v, .func (.func 84) #[] #[]] w fun e w' => e = .returned (.bool (!l.all fitB)) ∧ Below w.heap.size w w' := by
 obtain ⟨a, c, rfl, h2, h3, h4⟩ := hv
 have H := contStep (encK 2) (encK_len 2) l a c h2 h3 _ w (Nat.le_refl _) (Lib.hid h4) 84 (fun args w => by simp [go_sem]) (fun n => !fitB n) (Lib.hid fun x hx W _ => wideS_any x (hl x hx) W)
 rw [all_any l _ fitB (fun _ => rfl)] at H
 exact H
set_option maxRecDepth 100000 in
set_option maxHeartbeats 1000000 in
theorem demand_any (x : List UInt8 × List Int × List (List Int)) (dv : Value) (hx : x.2.1.length = 6) (hs : ∀ n ∈ x.2.2, n.length = 2) (hm : x.1.length ≤ 1000000) (w : World) (hd : IsSt x.2.2 dv w) : Calls Tryz.prog 50 #[.agg (encD (x, dv)).toArray] w fun e w' => e = .returned (.bool (demOk x)) ∧ Below w.heap.size w w' := by
 obtain ⟨nm, z, st⟩ := x
 obtain ⟨a, b, c, d, f, g, rfl⟩ := six hx
 obtain ⟨NM, hNM⟩ : ∃ NM : ByteArray, NM = ⟨nm.toArray⟩ := ⟨_, rfl⟩
 have HN := nameH nm hm NM hNM
 have HF := fitH [a, b, c, d, f, g]
 have HD : Hid (∀ w', Below w.heap.size w w' → Calls Tryz.prog 83 #[dv, .func (.func 84) #[] #[]] w' fun e w2 => e = .returned (.bool (!st.all fitB)) ∧ Below w'.heap.size w' w2) := Lib.hid fun w' hb => steps_any st hs dv w' (hd.up hb)
 obtain ⟨sa, sc, hdv, h2, h3, h4⟩ := hd
 have hres : Hid (demOk (nm, [a, b, c, d, f, g], st) = (nameB nm && decide (st.length ≤ 200) && fitB [a, b, c, d, f, g] && st.all fitB)) := Lib.hid (by
  unfold demOk
  dsimp only
  cases nameB nm <;> cases fitB [a, b, c, d, f, g] <;> cases decide (st.length ≤ 200) <;> cases st.all fitB <;> rfl)
 obtain ⟨n, hn⟩ : ∃ n, st.length = n := ⟨_, rfl⟩
 have hdv2 : dv = .slice sa n sc := by rw [← hn]; exact hdv
 clear hdv
 subst hdv2
 rw [show (encD ((nm, [a, b, c, d, f, g], st), .slice sa n sc)).toArray = #[.string NM, .int .i64 a, .int .i64 b, .int .i64 c, .int .i64 d, .int .i64 f, .int .i64 g, .slice sa n sc] by rw [hNM]; rfl]
 rw [hn] at hres
 generalize demOk (nm, [a, b, c, d, f, g], st) = Rs at *
 generalize nameB nm = N1 at *
 generalize fitB [a, b, c, d, f, g] = F1 at *
 generalize st.all fitB = F2 at *
 clear hNM hx hm hs h2 h4 hn
 go_enter Tryz.func50, Tryz.ntmps50
 go_wp2_with fail
 refine (HN.out _).mono ?_
 rintro e w1 ⟨rfl, HBn⟩
 have kt : At w1 w.heap.size 63 #[.string NM, .int .i64 a, .int .i64 b, .int .i64 c, .int .i64 d, .int .i64 f, .int .i64 g, .slice sa n sc] := (At.new' rfl).bel HBn
 have q0 : w1.cell? ⟨w.heap.size, 0, none⟩ = some (.string NM) := kt.c 0
 have q1 : w1.cell? ⟨w.heap.size, 1, none⟩ = some (.int .i64 a) := kt.c 1
 have q2 : w1.cell? ⟨w.heap.size, 2, none⟩ = some (.int .i64 b) := kt.c 2
 have q3 : w1.cell? ⟨w.heap.size, 3, none⟩ = some (.int .i64 c) := kt.c 3
 have q4 : w1.cell? ⟨w.heap.size, 4, none⟩ = some (.int .i64 d) := kt.c 4
 have q5 : w1.cell? ⟨w.heap.size, 5, none⟩ = some (.int .i64 f) := kt.c 5
 have q6 : w1.cell? ⟨w.heap.size, 6, none⟩ = some (.int .i64 g) := kt.c 6
 have q7 : w1.cell? ⟨w.heap.size, 7, none⟩ = some (.slice sa n sc) := kt.c 7
 have HB := below_then (below_al (Below.refl _ _) _) HBn
 clear HBn kt
 cases N1
 ·go_wp2_with fail
  go_ret
  exact ⟨by rw [hres.out]; rfl, HB⟩
 ·by_cases l1 : n ≤ 200
  rotate_left
  ·have l1' : decide ((n : Int) ≤ 200) = false := decide_eq_false (by omega)
   have e0 : decide (n ≤ 200) = false := decide_eq_false (by omega)
   go_wp2_with fail
   go_ret
   exact ⟨by rw [hres.out]; rw [e0]; rfl, HB⟩
  ·have l1' : decide ((n : Int) ≤ 200) = true := decide_eq_true (by omega)
   have e0 : decide (n ≤ 200) = true := decide_eq_true (by omega)
   replace hres := Lib.hid (show Rs = (F1 && F2) by rw [hres.out, e0]; rfl)
   clear e0
   go_wp2_with fail
   refine (coords_any a b c d f g _).mono ?_
   rintro e w2 ⟨⟨v, rfl, hv⟩, HBn⟩
   have r7 : w2.cell? ⟨w.heap.size, 7, none⟩ = some (.slice sa n sc) := (HBn.cell (block_lt_of_cell q7)).trans q7
   replace HB := below_then HB HBn
   clear HBn
   go_wp2_with fail
   refine (HF.out v w2 hv).mono ?_
   rintro e w3 ⟨rfl, HBn⟩
   have s7 : w3.cell? ⟨w.heap.size, 7, none⟩ = some (.slice sa n sc) := (HBn.cell (block_lt_of_cell r7)).trans r7
   replace HB := below_then HB HBn
   clear HBn r7
   cases F1
   ·go_wp2_with fail
    go_ret
    exact ⟨by rw [hres.out]; rfl, HB⟩
   ·go_wp2_with fail
    refine (HD.out w3 HB).mono ?_
    rintro e w4 ⟨rfl, HBn⟩
    replace HB := below_then HB HBn
    cases F2
    ·go_wp2_with fail
     go_ret
     exact ⟨by rw [hres.out]; rfl, HB⟩
    ·go_wp2_with fail
     go_ret
     exact ⟨by rw [hres.out]; rfl, HB⟩
set_option maxRecDepth 100000 in
set_option maxHeartbeats 1000000 in
theorem wideD_any (x : List UInt8 × List Int × List (List Int)) (dv : Value) (hx : x.2.1.length = 6) (hs : ∀ n ∈ x.2.2, n.length = 2) (hm : x.1.length ≤ 1000000) (w : World) (hd : IsSt x.2.2 dv w) : Calls Tryz.prog 49 #[.agg (encD (x, dv)).toArray] w fun e w' => e = .returned (.bool (!demOk x)) ∧ Below w.heap.size w w' := by
 have HD : Hid (∀ w', Below w.heap.size w w' → Calls Tryz.prog 50 #[.agg (encD (x, dv)).toArray] w' fun e w2 => e = .returned (.bool (demOk x)) ∧ Below w'.heap.size w' w2) := Lib.hid fun w' hb => demand_any x dv hx hs hm w' (hd.up hb)
 obtain ⟨Rs, hRs⟩ : ∃ r, demOk x = r := ⟨_, rfl⟩
 rw [hRs] at HD ⊢
 obtain ⟨nm, z, st⟩ := x
 obtain ⟨a, b, c, d, f, g, rfl⟩ := six hx
 obtain ⟨NM, hNM⟩ : ∃ NM : ByteArray, NM = ⟨nm.toArray⟩ := ⟨_, rfl⟩
 rw [show (encD ((nm, [a, b, c, d, f, g], st), dv)).toArray = #[.string NM, .int .i64 a, .int .i64 b, .int .i64 c, .int .i64 d, .int .i64 f, .int .i64 g, dv] by rw [hNM]; rfl] at HD ⊢
 clear hRs hx hs hm hd hNM
 go_enter Tryz.func49, Tryz.ntmps49
 go_wp2_with fail
 refine (HD.out _ (below_al (Below.refl _ _) _)).mono ?_
 rintro e w1 ⟨rfl, HB⟩
 replace HB := below_then (below_al (Below.refl _ _) _) HB
 cases Rs
 ·go_wp2_with fail
  go_ret
  exact ⟨rfl, HB⟩
 ·go_wp2_with fail
  go_ret
  exact ⟨rfl, HB⟩
end Go.Proofs.YtccakklnbhcbdaaGreatDoor
