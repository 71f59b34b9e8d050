/- lorry.Bound. site: an object apart from blocks that stay as they are; an entry done to it. The yard's example holds. The walk of TopBundled. -/
import Derived.Test.YtjlkbmaigcgnbaaDoorBJ32
import Derived.Test.YtjlkbmaigcgnbaaDoorBJ11
import Derived.Test.YtjlkbmaigcgnbaaDoorBJ12
import Derived.Test.YtjlkbmaigcgnbaaDoorBJ27
import Derived.Test.YtjlkbmaigcgnbaaDoorBJ30
import Derived.Test.YtjlkbmaigcgnbaaDoorBJ35
import Derived.Test.YtjlkbmaigcgnbaaDoorBJ33
import Derived.Test.YtjlkbmaigcgnbaaDoorBJ28
set_option linter.unusedVariables false
namespace Go.Proofs.YtjlkbmaigcgnbaaDoor
open Go.ChangeShapes Go.WideShapes Go.ChangeAt Go.RowKit
theorem bnd_sum (f : Nat → Int) (k : Nat) : ((List.range (k + 1)).map f).sum = ((List.range k).map f).sum + f k := by
  rw [List.range_succ, List.map_append, List.sum_append]
  simp
theorem bnd_cnt (p : Nat → Bool) (k : Nat) : (List.range (k + 1)).countP p = (List.range k).countP p + if p k then 1 else 0 := by
  rw [List.range_succ, List.countP_append]
  simp [List.countP_cons]
theorem bnd_le (f : Nat → Int) (hf : ∀ j, 0 ≤ f j ∧ f j ≤ 1099511627776) : ∀ k : Nat, 0 ≤ ((List.range k).map f).sum ∧ ((List.range k).map f).sum ≤ (k : Int) * 1099511627776
  | 0 => by simp
  | k + 1 => by
    have h1 := bnd_le f hf k
    have h2 := hf k
    rw [bnd_sum]
    omega
theorem max3_run {P : Program} (ts : Array TypeId) (t : TypeId) (x y z : Int) (w : World) : (Builtin.max_ ts t #[.int .i64 x, .int .i64 y, .int .i64 z]).run P w = .ok (.int .i64 (max (max x y) z)) w := by
  have h1 : (if y > x then y else x) = max x y := by split <;> omega
  have h2 : (if z > max x y then z else max x y) = max (max x y) z := by split <;> omega
  simp only [Builtin.max_, List.foldlM_cons, List.foldlM_nil, Builtin.max2, pure_bind, h1, h2]
  rfl
set_option maxRecDepth 100000 in
set_option maxHeartbeats 1000000 in
theorem bound_any (l : List Bun) (ao : Option Addr) (cap : Nat) (most : Int) (hl : l.length ≤ cap) (hc : cap ≤ 9223372036854775807) (hs : Hid (∀ x ∈ l, x.tag.size ≤ 60 ∧ x.mark.size ≤ 60)) (w : World) (ha : Hid (RowAt encB 4 w.heap.size w ao l)) (hn : l.length ≤ 1000) :
    Calls Tryd.prog 11 #[.slice ao l.length cap, .int .i64 most] w fun e w' => e = .returned (.tuple #[.int .i64 (if givE l most = 0 then boundN (massN l) most l.length else 0), .int .i64 (givE l most)]) ∧ Below w.heap.size w w' := by
  have HG := Lib.hid (lgiven_any l ao cap most hl hc hs w ha)
  obtain ⟨ge, hge⟩ : ∃ ge, givE l most = ge := ⟨_, rfl⟩
  have hgk : Hid (ge = 0 → GivK l most) := Lib.hid fun h => givK (hge.trans h)
  rw [hge] at HG ⊢
  obtain ⟨RV, hRV⟩ : ∃ RV : Int, (if ge = 0 then boundN (massN l) most l.length else 0) = RV := ⟨_, rfl⟩
  rw [hRV]
  obtain ⟨n, hn'⟩ : ∃ n, l.length = n := ⟨_, rfl⟩
  rw [hn'] at HG hRV hl hn ⊢
  replace hn' := Lib.hid hn'
  clear hge
  by_cases hg0 : ge = 0
  rotate_left
  · rw [if_neg hg0] at hRV
    subst hRV
    have g1 : (ge != 0) = true := by simp [hg0]
    clear hgk
    go_enter Tryd.func11, Tryd.ntmps11
    go_wp2_with fail
    refine HG.out.mono ?_
    rintro e w1 ⟨rfl, HB⟩
    go_wp2_with fail
    exact bodyPost_ret (v := .tuple #[.int .i64 0, .int .i64 ge]) (by simp [results, Tryd.results11, go_sem]) rfl ⟨rfl, HB⟩
  rw [if_pos hg0] at hRV
  have hk := hgk.out hg0
  subst hg0
  obtain ⟨f, hf⟩ : ∃ f, massN l = f := ⟨_, rfl⟩
  have hfm : Hid (∀ (k : Nat) (h : k < l.length), l[k].mass = f k) := Lib.hid fun k h => by
    rw [← hf]
    unfold massN
    rw [List.getElem?_eq_getElem h]
  have hmm := Lib.hid hk.mass
  have hpos := hk.pos
  rw [hf] at hmm hRV
  have hbd := Lib.hid (bnd_le f hmm.out)
  replace hRV := Lib.hid hRV
  clear hk hf hgk
  go_enter Tryd.func11, Tryd.ntmps11
  go_wp2_with fail
  refine HG.out.mono ?_
  rintro e w1 ⟨rfl, HB⟩
  clear HG
  go_wp2_with fail
  go_loopg [19, 7, 8] n (fun g i u v wr => ∃ (k al : Nat) (s : Int), k ≤ n ∧ i = .int .i64 (k : Int) ∧ u = .int .i64 s ∧ v = .int .i64 (al : Int) ∧ al ≤ k ∧ Hid (g = n - k ∧ s = ((List.range k).map f).sum ∧ al = (List.range k).countP fun i => decide (most < 2 * f i)) ∧ Below w.heap.size w wr)
  case atStart => exact ⟨0, 0, 0, Nat.zero_le _, rfl, rfl, rfl, Nat.le_refl _, Lib.hid ⟨rfl, by simp, by simp⟩, HB⟩
  case round =>
    clear HB
    obtain ⟨k, al, s, hk, rfl, rfl, rfl, hal, hr, HB⟩ := hrel
    have hb1 := hbd.out k
    have hs2 := hr.out.2.1
    by_cases hlt : k < n
    · have hkl : Hid (k < l.length) := Lib.hid (by rw [hn'.out]; exact hlt)
      obtain ⟨b, off, rfl, c0, c1, c2, c3, -⟩ := (show RowAt encB 4 w.heap.size wr ao l from ha.out.bel (Nat.le_refl _) HB).bun k hkl.out
      rw [hfm.out k hkl.out] at c3
      generalize (l[k]'hkl.out).tag = xt at c0
      generalize (l[k]'hkl.out).mark = xm at c1
      generalize (l[k]'hkl.out).count = xc at c2
      have hx := hmm.out k
      have hn1 := Lib.hid (bnd_sum f k)
      have hn2 := Lib.hid (bnd_cnt (fun i => decide (most < 2 * f i)) k)
      obtain ⟨y, hy⟩ : ∃ y, f k = y := ⟨_, rfl⟩
      rw [hy] at c3 hx hn1
      obtain ⟨s2, hs3⟩ : ∃ s2, s + y = s2 := ⟨_, rfl⟩
      obtain ⟨y2, hy2⟩ : ∃ y2, 2 * y = y2 := ⟨_, rfl⟩
      have z1 : IntKind.i64.wrap (s + y) = s2 := by rw [hs3, IntWalk.i64_in _ (by omega)]
      have z2 : IntKind.i64.wrap (2 * y) = y2 := by rw [hy2, IntWalk.i64_in _ (by omega)]
      have hst : Hid (s2 = ((List.range (k + 1)).map f).sum) := Lib.hid (by rw [hn1.out]; omega)
      go_upto_region 8 with fail
      generalize hWW : World.alloc _ _ = W4
      have ky : At W4 wr.heap.size 44 #[.string xt, .string xm, .int .i64 xc, .int .i64 y] := by rw [← hWW]; exact At.new' rfl
      have hbW : Below wr.heap.size wr W4 := by rw [← hWW]; exact below_al (Below.refl _ _) _
      have q0 : W4.cell? ⟨wr.heap.size, 3, none⟩ = some (.int .i64 y) := ky.c 3
      replace HB := below_then HB hbW
      clear hWW hbW c0 c1 c2 c3 ky hb1 hs2
      by_cases q : most < y2
      · have g5 : decide (most < y2) = true := decide_eq_true q
        have z3 : IntKind.i64.wrap ((al : Int) + 1) = ((al + 1 : Nat) : Int) := by rw [IntWalk.i64_in _ (by omega)]; omega
        have hst2 : Hid (al + 1 = (List.range (k + 1)).countP fun i => decide (most < 2 * f i)) := Lib.hid (by
          rw [hn2.out, if_pos (decide_eq_true (by rw [hy, hy2]; exact q)), ← hr.out.2.2])
        clear q hx hs3 hy2
        go_wp2_with fail
        go_roundg (n - (k + 1))
        case measure => have := hr.out.1; omega
        case rel => exact ⟨k + 1, al + 1, s2, by omega, by go_num, rfl, by go_num, by omega, Lib.hid ⟨rfl, hst.out, hst2.out⟩, HB⟩
      · have g5 : decide (most < y2) = false := decide_eq_false q
        have hst2 : Hid (al = (List.range (k + 1)).countP fun i => decide (most < 2 * f i)) := Lib.hid (by
          rw [hn2.out, if_neg (by rw [decide_eq_false (by rw [hy, hy2]; exact q)]; decide), Nat.add_zero, ← hr.out.2.2])
        clear q hx hs3 hy2
        go_wp2_with fail
        go_roundg (n - (k + 1))
        case measure => have := hr.out.1; omega
        case rel => exact ⟨k + 1, al, s2, by omega, by go_num, rfl, rfl, by omega, Lib.hid ⟨rfl, hst.out, hst2.out⟩, HB⟩
    · have hkn : k = n := by omega
      have hE : Hid (RV = max (max ((s + most - 1) / most) (al : Int)) (min (n : Int) 1)) := Lib.hid (by
        rw [← hRV.out]
        unfold boundN sumF2 aloneN
        rw [← hkn, ← hr.out.2.2, ← hs2])
      obtain ⟨A, hA⟩ : ∃ A, s + most = A := ⟨_, rfl⟩
      obtain ⟨C, hC⟩ : ∃ C, A - 1 = C := ⟨_, rfl⟩
      obtain ⟨q, hq⟩ : ∃ q, C / most = q := ⟨_, rfl⟩
      have z1 : IntKind.i64.wrap (s + most) = A := by rw [hA, IntWalk.i64_in _ (by omega)]
      have z2 : IntKind.i64.wrap (A - 1) = C := by rw [hC, IntWalk.i64_in _ (by omega)]
      have z3 : C.tdiv most = q := by rw [← hq, Int.tdiv_eq_ediv_of_nonneg (by omega)]
      have hqb : 0 ≤ q ∧ q ≤ 4000000000000000 := by
        rw [← hq]
        refine ⟨Int.ediv_nonneg (by omega) (by omega), ?_⟩
        have := Int.ediv_le_self most (show 0 ≤ C by omega)
        omega
      have z4 : IntKind.i64.wrap q = q := IntWalk.i64_in _ (by omega)
      have z5 : ¬ most = 0 := by omega
      have z6 : (most == 0) = false := by simp; omega
      have hE2 : Hid (RV = max (max q (al : Int)) (min (n : Int) 1)) := Lib.hid (by rw [hE.out, hA, hC, hq])
      clear hE hA hC hq hqb hb1 hs2
      have hmx : (Builtin.max_ #[3, 3, 3] 3 #[.int .i64 q, .int .i64 (al : Int), .int .i64 (min (n : Int) 1)]).run Tryd.prog wr = .ok (.int .i64 RV) wr := by
        rw [max3_run, hE2.out]
      go_wp2_with fail
      exact bodyPost_ret (v := .tuple #[.int .i64 RV, .int .i64 0]) (by simp [results, Tryd.results11, go_sem]) rfl ⟨rfl, HB⟩
end Go.Proofs.YtjlkbmaigcgnbaaDoor
set_option linter.unusedVariables false
namespace Go.Proofs.YtjlkbmaigcgnbaaDoor
open Go.ChangeShapes Go.WideShapes Go.ChangeAt Go.RowKit
def mB : ByteArray := ⟨#[109]⟩
structure Kp (Av : Nat → Prop) (w w' : World) : Prop where
  os : w'.os = w.os
  tape : w'.tape = w.tape
  output : w'.output = w.output
  size : w.heap.size ≤ w'.heap.size
  block : ∀ b, Av b → w'.heap[b]? = w.heap[b]?
section
variable {Av : Nat → Prop} {a w w' u : World} {g h : Nat} {s t : St}
theorem Kp.refl (w : World) : Kp Av w w := ⟨rfl, rfl, rfl, Nat.le_refl _, fun _ _ => rfl⟩
theorem Kp.of_below (h : Below w.heap.size w w') (hav : ∀ b, Av b → b < w.heap.size) : Kp Av w w' := ⟨h.os, h.tape, h.output, h.size, fun b hb => h.block b (hav b hb)⟩
theorem Kp.trans (h : Kp Av a w) (k : Kp Av w w') : Kp Av a w' := ⟨k.os.trans h.os, k.tape.trans h.tape, k.output.trans h.output, Nat.le_trans h.size k.size, fun b hb => (k.block b hb).trans (h.block b hb)⟩
theorem Kp.then (h : Kp Av a w) (hav : ∀ b, Av b → b < a.heap.size) (k : Below w.heap.size w w') : Kp Av a w' := h.trans (Kp.of_below k fun b hb => Nat.lt_of_lt_of_le (hav b hb) h.size)
theorem Kp.below {B : Nat} (h : Kp Av w w') (hB : ∀ b, b < B → Av b) : Below B w w' := ⟨h.os, h.tape, h.output, h.size, fun k hk => h.block k (hB k hk)⟩
theorem Kp.of_frm {F : List (Option Nat)} (h : Frm F w w') (hd : ∀ b, Av b → some b ∉ F) (hav : ∀ b, Av b → b < w.heap.size) : Kp Av w w' := ⟨h.os, h.tape, h.output, h.size, fun b hb => h.block b (hav b hb) (hd b hb)⟩
theorem Kp.mono {Av' : Nat → Prop} (h : Kp Av w w') (hm : ∀ b, Av' b → Av b) : Kp Av' w w' := ⟨h.os, h.tape, h.output, h.size, fun b hb => h.block b (hm b hb)⟩
def Lone (Av : Nat → Prop) (w : World) (g : Nat) (s : St) : Prop := ∃ p, SiteW w g s p ∧ ∀ b, some b ∈ p.fp g → ¬ Av b
theorem Lone.up (hb : Below w.heap.size w w') (hd : Lone Av w g s) : Lone Av w' g s := by
  obtain ⟨p, h1, h3⟩ := hd
  exact ⟨p, h1.bel hb, h3⟩
theorem lone_do (hd : Lone Av u g s) (hav : ∀ b, Av b → b < u.heap.size) (hok : s.ok) (xd xk : Int) (xn : ByteArray) (hz : xn.size ≤ 60) :
    Calls Tryd.prog 17 #[.pointer (some ⟨g, 0, none⟩), .agg #[.int .i64 xd, .int .i64 xk, .string xn]] u fun e w' => e = .returned (.int .i64 (doS s ⟨xd, xk, xn⟩).1) ∧ Lone Av w' g (doS s ⟨xd, xk, xn⟩).2 ∧ Kp Av u w' := by
  obtain ⟨p, h1, h3⟩ := hd
  refine (do_any s hok xd xk xn hz g p u h1).mono ?_
  rintro e w' ⟨rfl, p', k1, k2, k3⟩
  refine ⟨rfl, ⟨p', k1, fun b hb ha => ?_⟩, Kp.of_frm k2 (fun b ha hn => h3 b hn ha) hav⟩
  rcases k3 b hb with r | r
  · exact h3 b r ha
  · have := hav b ha
    omega
end
end Go.Proofs.YtjlkbmaigcgnbaaDoor
set_option linter.unusedVariables false
namespace Go.Proofs.YtjlkbmaigcgnbaaDoor
open Go.ChangeShapes Go.WideShapes Go.ChangeAt Go.RowKit
deriving instance DecidableEq for Bun
def yB : List Br := [⟨⟨#[97]⟩, 12, 5, 0, [1000]⟩]
def yU : List Bun := [⟨⟨#[116, 49]⟩, ⟨#[97]⟩, 2, 1776⟩, ⟨⟨#[116, 50]⟩, ⟨#[97]⟩, 2, 1776⟩, ⟨⟨#[116, 51]⟩, ⟨#[97]⟩, 1, 888⟩]
theorem y_make : makeE 2000 yB = (yU, 0) := by decide +kernel
theorem y_giv : givE yU 4000 = 0 := by decide +kernel
theorem y_gre : (greedG (massN yU) 4000 (ordN (massN yU) 3)).1.length = 2 := by decide +kernel
theorem y_new : newOk yU mB = true := by decide +kernel
theorem y_acc : (st0 yU mB).at_.count 0 = 3 ∧ (st0 yU mB).at_.count 1 = 0 ∧ (st0 yU mB).at_.count 2 = 0 := by decide +kernel
theorem y_do1 : (doS (st0 yU mB) ⟨0, 5, mB⟩).1 = 24 := by decide +kernel
theorem y_do2 : (doS (doS (st0 yU mB) ⟨0, 5, mB⟩).2 ⟨0, 1, ⟨#[116, 49]⟩⟩).1 = 0 := by decide +kernel
theorem y_short : ∀ x ∈ yU, x.tag.size ≤ 60 ∧ x.mark.size ≤ 60 := by
  intro x hx
  simp [yU] at hx
  rcases hx with rfl | rfl | rfl <;> decide
set_option maxRecDepth 100000 in
set_option maxHeartbeats 4000000 in
theorem yawake_any (w : World) (ht : Tab w) : Calls Tryd.prog 4 #[] w fun e w' => e = .returned (.bool true) ∧ Below w.heap.size w w' := by
  have ht0 := Lib.hid ht
  clear ht
  go_enter Tryd.func4, Tryd.ntmps4
  go_wp2_with fail
  generalize hWW : World.alloc (World.alloc w _) _ = WW
  have kd : At WW w.heap.size 3 #[.int .i64 1000] := by rw [← hWW]; repeat (first | (with_reducible apply At.new'; (focus (simp; done))) | with_reducible apply At.al | with_reducible apply At.drw | with_reducible apply At.dr)
  have kb : At WW (w.heap.size + 1) 50 #[.string ⟨#[97]⟩, .int .i64 12, .int .i64 5, .int .i64 0, .slice (some ⟨w.heap.size, 0, none⟩) 1 1] := by rw [← hWW]; repeat (first | (with_reducible apply At.new'; (focus (simp; done))) | with_reducible apply At.al | with_reducible apply At.drw | with_reducible apply At.dr)
  have HB : Below w.heap.size w WW := by rw [← hWW]; exact below_al (below_al (Below.refl _ _) _) _
  clear hWW
  have hV : BarsV WW yB [.slice (some ⟨w.heap.size, 0, none⟩) 1 1] (some ⟨w.heap.size + 1, 0, none⟩) 1 := by
    refine ⟨by decide, by decide, ?_, rfl, ?_, ?_⟩
    · intro k hk
      have hk0 : k = 0 := by simp [yB] at hk; exact hk
      subst hk0
      refine ⟨w.heap.size + 1, 0, rfl, kb.lt, fun j u hu => ?_⟩
      have hu2 : (encQ (⟨⟨#[97]⟩, 12, 5, 0, [1000]⟩, .slice (some ⟨w.heap.size, 0, none⟩) 1 1))[j]? = some u := hu
      rw [show 0 + 0 * 5 + j = j by omega, kb.c]
      simpa [encQ] using hu2
    · intro k h1 h2
      have hk0 : k = 0 := by simp [yB] at h1; exact h1
      subst hk0
      exact isI_new (l := [1000]) kd (by simp)
    · intro b hb
      simp [yB] at hb
      subst hb
      decide
  have HM := Lib.hid (make_any yB _ _ 1 2000 WW hV (ht0.out.bel HB))
  rw [y_make, show yB.length = 1 from rfl] at HM
  clear kd kb hV ht0
  refine HM.out.mono ?_
  rintro e w1 ⟨⟨v, rfl, a, c, rfl, h2, h3, h4⟩, hb⟩
  have h4' := Lib.hid h4
  rw [show yU.length = 3 from rfl] at h2 ⊢
  replace HB := below_then HB hb
  clear hb HM h4
  have HG := Lib.hid (greedy_any yU a c 4000 h2 h3 (by decide) (Lib.hid y_short) w1 h4')
  rw [y_giv, show yU.length = 3 from rfl] at HG
  go_wp2_with fail
  refine HG.out.mono ?_
  rintro e w2 ⟨-, hg, hb⟩
  obtain ⟨vo, vm, vs, rfl, hGr⟩ := hg (by first | rfl | trivial)
  obtain ⟨ao, co, rfl⟩ := own_slice hGr.o
  have hvl : vs.length = 2 := hGr.n.trans y_gre
  rw [hvl]
  have hrow2 : Hid (RowAt encB 4 w2.heap.size w2 a yU) := Lib.hid ((h4'.out.bel (Nat.le_refl _) hb).mono hb.size)
  replace HB := below_then HB hb
  clear hb HG hg hGr hvl h4'
  have HN := Lib.hid (new_any yU mB (by decide) a c h2 h3 (Lib.hid y_short) w2 hrow2)
  rw [show yU.length = 3 from rfl] at HN
  go_wp2_with fail
  refine HN.out.mono ?_
  rintro e w3 ⟨-, hgood, hb⟩
  obtain ⟨g, p, rfl, hs1, hfp⟩ := hgood y_new
  have hok0 := Lib.hid (st0_ok yU mB y_new y_short)
  have hL0 : Hid (Lone (fun x => x < w2.heap.size) w3 g (st0 yU mB)) := Lib.hid ⟨p, hs1, fun x hx h => by have := hfp x hx; omega⟩
  have HA := Lib.hid (account_any (st0 yU mB) hok0.out g p w3 hs1)
  rw [y_acc.1, y_acc.2.1, y_acc.2.2] at HA
  have hw23 := Lib.hid hb.size
  have HBH := Lib.hid HB
  replace HB := below_then HB hb
  clear hgood hs1 hfp hb HN hrow2
  go_wp2_with fail
  refine HA.out.mono ?_
  rintro e w4 ⟨rfl, hb⟩
  replace hL0 := Lib.hid (hL0.out.up hb)
  replace HB := below_then HB hb
  have hw24 := Lib.hid (Nat.le_trans hw23.out hb.size)
  clear hb HA
  have HD1 := Lib.hid (lone_do hL0.out (fun x hx => Nat.lt_of_lt_of_le hx hw24.out) hok0.out 0 5 mB (by decide))
  rw [y_do1] at HD1
  have hok1 := Lib.hid (doS_ok (st0 yU mB) hok0.out ⟨0, 5, mB⟩ (by decide))
  have hdo2 := Lib.hid y_do2
  obtain ⟨S1, hS1⟩ : ∃ S1, (doS (st0 yU mB) ⟨0, 5, mB⟩).2 = S1 := ⟨_, rfl⟩
  rw [hS1] at HD1 hok1 hdo2
  clear hS1 hL0
  rw [show mB = ⟨#[109]⟩ from rfl] at HD1
  go_wp2_with fail
  refine HD1.out.mono ?_
  rintro e w5 ⟨rfl, hL5, hK5⟩
  have hb5 : Below w2.heap.size w4 w5 := hK5.below (fun x hx => hx)
  have hw25 := Lib.hid (Nat.le_trans hw24.out hK5.size)
  have HB5 : Below w.heap.size w w5 := HB.trans (hb5.mono HBH.out.size)
  have HD2 := Lib.hid (lone_do hL5 (fun x hx => Nat.lt_of_lt_of_le hx hw25.out) hok1.out 0 1 ⟨#[116, 49]⟩ (by decide))
  rw [hdo2.out] at HD2
  clear HD1 hL5 hK5 hb5 HB
  go_wp2_with fail
  refine HD2.out.mono ?_
  rintro e w6 ⟨rfl, hL6, hK6⟩
  have hb6 : Below w2.heap.size w5 w6 := hK6.below (fun x hx => hx)
  have HB6 : Below w.heap.size w w6 := HB5.trans (hb6.mono HBH.out.size)
  clear HD2 hL6 hK6 hb6 HB5
  go_wp2_with fail
  go_ret
  exact ⟨rfl, HB6⟩
end Go.Proofs.YtjlkbmaigcgnbaaDoor
set_option linter.unusedVariables false
namespace Go.Proofs.YtjlkbmaigcgnbaaDoor
open Go.ChangeShapes Go.WideShapes Go.ChangeAt Go.RowKit Go.Maps Go.ChangeMaps Go.WideMaps
theorem infoBool : (Tryd.prog.info? 4).map (fun i => (i.zero, i.size, i.bytes)) = some (some (.bool false), 1, 1) := by kernel_rfl
theorem made_bools (n : Nat) : (madeCells (Value.bool false).cells (n * 1)).toList = boolV n [] := by
  rw [boolV_nil]
  unfold madeCells
  refine List.ext_getElem (by simp) fun k h1 h2 => ?_
  simp [Value.cells, Nat.mod_one]
structure BunK (l : List Br) (most : Int) (U : List Bun) : Prop where
  sch : schV l = true
  val : bunV U = true
  siz : ∀ x ∈ U, x.tag.size ≤ 60 ∧ x.mark.size ≤ 60
  cnt : ∀ b ∈ l, cntU U b.mark = b.count
  mem : ∀ x ∈ U, ∃ b ∈ l, x.mark = b.mark ∧ x.mass = x.count * massB b
  mass : (U.map (·.mass)).sum = (l.map lineM).sum
theorem bunK {l : List Br} {most : Int} {U : List Bun} (hU : (makeE most l).1 = U) (hE : (makeE most l).2 = 0) (hm : ∀ b ∈ l, b.mark.size ≤ 60) : BunK l most U := by
  obtain ⟨h1, h2⟩ := makeE_ok hE
  rw [h2] at hU
  subst hU
  exact ⟨sch_val h1, make_val h1, make_tags h1 hm, fun b hb => make_count h1 hb, make_bars h1, make_mass h1⟩
structure LoadK (f : Nat → Int) (limit : Int) (n : Nat) (L : List (List Nat)) (B : Int) : Prop where
  pk : Pk f limit n L
  len : L.length ≤ n
  bd : B ≤ (L.length : Int)
  bd0 : 0 ≤ B
  bm : sumF2 f n ≤ B * limit
  least : n < 20 → ∀ b : List (List Nat), leastV f limit (ordN f n) = some b → B ≤ (b.length : Int) ∧ b.length ≤ L.length
def GrdE (l : List Bun) (most : Int) (e : Ending) (w' : World) : Prop := ∃ (L : List (List Nat)) (ao : Option Addr) (co : Nat), LoadK (massN l) most l.length L (boundN (massN l) most l.length) ∧ e = .returned (.tuple #[.slice ao L.length co, .int .i64 0]) ∧ LoadsV w' L ao co
theorem loadK {l : List Bun} {most : Int} (hk : GivK l most) {o : List Nat} (ho : o.Perm (List.range l.length)) (hlo : l.length < 20 → o = ordN (massN l) l.length) : LoadK (massN l) most l.length (greedG (massN l) most o).1 (boundN (massN l) most l.length) := by
  have hOk : GOk (massN l) most (greedG (massN l) most o) o := by
    have := GOk.run o _ _ (GOk.nil (massN l) most) (fun i hi => hk.fit i (by simpa using ho.mem_iff.1 hi))
    rwa [List.nil_append] at this
  have hp := hOk.pk ho
  have hf0 : ∀ i, i < l.length → 0 ≤ massN l i := fun i hi => (hk.fit i hi).1
  refine ⟨hp, by have := hOk.few; rw [ho.length_eq, List.length_range] at this; exact this, hp.bound hk.pos.1 hf0, ?_, bound_mass hk.pos.1, fun hn b hb => ?_⟩
  · unfold boundN; omega
  · obtain ⟨b', h1, h2, h3⟩ := leastV_ok (f := massN l) (most := most) (ordN_perm (massN l) l.length) hk.fit
    rw [hb] at h1
    injection h1 with h1
    subst h1
    exact ⟨h2.bound hk.pos.1 hf0, by rw [hlo hn]; exact h3⟩
theorem greedyX_any (l : List Bun) (a : Option Addr) (c : Nat) (most : Int) (hl : l.length ≤ c) (hc : c ≤ 9223372036854775807) (hn : l.length ≤ 900) (hs : Hid (∀ x ∈ l, x.tag.size ≤ 60 ∧ x.mark.size ≤ 60)) (w : World) (hr : Hid (RowAt encB 4 w.heap.size w a l)) :
    Calls Tryd.prog 10 #[.slice a l.length c, .int .i64 most] w fun e w' => (givE l most ≠ 0 → e = .returned (.tuple #[.slice none 0 0, .int .i64 (givE l most)])) ∧ (givE l most = 0 → GrdE l most e w') ∧ Below w.heap.size w w' := by
  by_cases q : l.length < 20
  · refine (greedy_any l a c most hl hc q hs w hr).mono ?_
    rintro e w' ⟨h1, h2, h3⟩
    refine ⟨h1, fun h => ?_, h3⟩
    obtain ⟨v, vm, vs, e1, hG⟩ := h2 h
    obtain ⟨ao, co, e2, hL⟩ := hG.loads
    exact ⟨_, ao, co, loadK (givK h) (ordN_perm _ _) (fun _ => rfl), by rw [e1, e2], hL⟩
  · refine (greedyP_any l a c most hl hc hn hs w hr).mono ?_
    rintro e w' ⟨h1, h2, h3⟩
    refine ⟨h1, fun h => ?_, h3⟩
    obtain ⟨o, v, vm, vs, ho, e1, hG⟩ := h2 h
    obtain ⟨ao, co, e2, hL⟩ := hG.loads
    exact ⟨_, ao, co, loadK (givK h) ho (fun q2 => absurd q2 q), by rw [e1, e2], hL⟩
end Go.Proofs.YtjlkbmaigcgnbaaDoor
