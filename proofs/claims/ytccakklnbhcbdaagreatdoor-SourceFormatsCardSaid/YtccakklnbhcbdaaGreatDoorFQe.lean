import Derived.Test.YtccakklnbhcbdaaGreatDoorFA
import Derived.Test.YtccakklnbhcbdaaGreatDoorFShelf
import Derived.Lib.LaidTab
import Derived.Test.YtccakklnbhcbdaaGreatDoorFQd
import Derived.Lib.AtoiErrMem
import Derived.Lib.AtoiAllCases
import Derived.Shelf.Strconv.ErrVarAll
import Derived.Deep.LoopGhost
import Derived.Deep.DeepCutAuto
import Derived.Deep.CutBlock
import Derived.Deep.OwnRows
import Derived.Maps.AppendAt
import Derived.Deep.AppendLies
import Derived.Deep.RegionLaw
set_option linter.unusedVariables false
namespace Go.Proofs.YtccakklnbhcbdaaGreatDoor
open Go.ChangeShapes Go.WideShapes Go.ChangeAt Go.RowKit
abbrev Tab (w : World) : Prop := Lib.TabIs Tryz.prog w "internal/strconv.uint64pow10" .u64 Lib.pow10Tab
theorem Tab.bel {w w' : World} (h : Tab w) (hb : Below w.heap.size w w') : Tab w' := by
 unfold Tab Lib.TabIs World.var? at *
 cases hg : Tryz.prog.globalNamed "internal/strconv.uint64pow10" with
 | none => rw [hg] at h; simp at h
 | some g =>
  simp only [hg, Option.bind_some] at h ⊢
  have hlt : g < w.heap.size := by
   rcases Nat.lt_or_ge g w.heap.size with k | k
   ·exact k
   ·rw [Array.getElem?_eq_none k] at h; simp at h
  rw [hb.block g hlt]
  exact h
theorem hb_grow (w : World) (k : Nat) (os : Array Obj) : Below w.heap.size w (Go.Sort.grow (w.drewN k) os) := by
 have := below_regrown w (w.drewN k).drawn os
 exact this
theorem itoa_tab (n : Int) (h : -9223372036854775808 ≤ n ∧ n ≤ 9223372036854775807) (w : World) (ht : Tab w) :
  Calls Tryz.prog 73 #[.int .i64 n] w fun e w' => e = .returned (.string ⟨(Lib.itoa n).toArray⟩) ∧ Below w.heap.size w w' :=
 (Tryz.strconv_Itoa n h.1 h.2 w ht).mono fun _ _ ⟨he, k, os, hw⟩ => ⟨he, by rw [hw]; exact hb_grow w k os⟩
end Go.Proofs.YtccakklnbhcbdaaGreatDoor
set_option linter.unusedVariables false
namespace Go.Proofs.YtccakklnbhcbdaaGreatDoor
open Go.ChangeShapes Go.WideShapes Go.ChangeAt Go.RowKit
open Go.Lib (decDigits itoa indexByte atoiAll)
theorem str_eq {a b : ByteArray} (h : a = b) : (a.toList == b.toList) = true := by rw [h]; simp
theorem str_ne {a b : ByteArray} (h : a ≠ b) : (a.toList == b.toList) = false := by
 rw [beq_eq_false_iff_ne]
 intro e
 rw [Lib.toList_data, Lib.toList_data] at e
 apply h
 have e2 := congrArg List.toArray e
 simp only [Array.toArray_toList] at e2
 exact congrArg ByteArray.mk e2
theorem var_bel {w w' : World} {n : String} {cs : Array Value} (h : w.var? Tryz.prog n = some cs) (hb : Below w.heap.size w w') : w'.var? Tryz.prog n = some cs := by
 unfold World.var? at *
 cases hg : Tryz.prog.globalNamed n with
 | none => rw [hg] at h; simp at h
 | some g =>
  rw [hg] at h
  simp only [Option.bind_some] at h ⊢
  have hlt : g < w.heap.size := by
   rcases Nat.lt_or_ge g w.heap.size with k | k
   ·exact k
   ·rw [Array.getElem?_eq_none k] at h; simp at h
  rw [hb.block g hlt]
  exact h
structure Env (w : World) : Prop where
 tab : Tab w
 syn : ∃ tp p, w.var? Tryz.prog "strconv.ErrSyntax" = some #[.iface tp p]
 rng : ∃ tp p, w.var? Tryz.prog "strconv.ErrRange" = some #[.iface tp p]
 mx : ∃ m, w.cell? ⟨0, 0, none⟩ = some (.int .i64 m)
theorem Env.bel {w w' : World} (h : Env w) (hb : Below w.heap.size w w') : Env w' :=
 ⟨h.tab.bel hb, h.syn.imp fun _ ⟨p, h⟩ => ⟨p, var_bel h hb⟩, h.rng.imp fun _ ⟨p, h⟩ => ⟨p, var_bel h hb⟩, h.mx.imp fun _ h => (hb.cell (block_lt_of_cell h)).trans h⟩
def atR (l : List UInt8) (n : Int) (E : Value) : Prop := (E = .nilIface ∧ Lib.atoiAll l = .ok n) ∨ ((∃ N, E = .iface 191 (.pointer (some ⟨N, 0, none⟩))) ∧ ∀ v, Lib.atoiAll l ≠ .ok v)
theorem atoi_env (s : ByteArray) (hs : s.size ≤ 1000000) (w : World) (h : Env w) :
  Calls Tryz.prog 129 #[.string s] w fun e w' => (∃ n E, e = .returned (.tuple #[.int .i64 n, E]) ∧ Hid (atR (by_ s) n E)) ∧ Below w.heap.size w w' := by
 cases ha : Lib.atoiAll s.data.toList with
 | ok v =>
  refine (Tryz.strconv_Atoi_ok s (by omega) v ha w).mono ?_
  rintro e w' ⟨rfl, hw⟩
  refine ⟨⟨v, _, rfl, Lib.hid (Or.inl ⟨rfl, ha⟩)⟩, ?_⟩
  rcases hw with rfl | ⟨t, rfl⟩
  ·exact Below.refl _ _
  ·exact Lib.bytesWorld_below _ _ _
 | range =>
  obtain ⟨tp, p, hv⟩ := h.rng
  refine (Tryz.strconv_Atoi_range_var s (by omega) ha tp p w hv).mono ?_
  rintro e w' ⟨N, rfl, _, _, hb⟩
  exact ⟨⟨_, _, rfl, Lib.hid (Or.inr ⟨⟨N, rfl⟩, fun v hv => by rw [ha] at hv; cases hv⟩)⟩, hb⟩
 | _ =>
  obtain ⟨tp, p, hv⟩ := h.syn
  refine (Any.strconv_Atoi_syntax_var Tryz.laysC172 s (by omega) ha tp p w hv).mono ?_
  rintro e w' ⟨N, rfl, _, _, hb⟩
  exact ⟨⟨_, _, rfl, Lib.hid (Or.inr ⟨⟨N, rfl⟩, fun v hv => by rw [ha] at hv; cases hv⟩)⟩, hb⟩
end Go.Proofs.YtccakklnbhcbdaaGreatDoor
set_option linter.unusedVariables false
namespace Go.Proofs.YtccakklnbhcbdaaGreatDoor
open Go.ChangeShapes Go.WideShapes Go.ChangeAt Go.RowKit
open Go.Lib (decDigits itoa indexByte atoiAll)
theorem wholeT_bad {T : Tk} (h : ∀ v, atoiAll T.text ≠ .ok v) : wholeT T = none := by
 unfold wholeT
 split
 ·exact intO_bad h
 ·rfl
theorem wholeT_kind {T : Tk} (h : T.kind ≠ 2) : wholeT T = none := by unfold wholeT; rw [if_neg h]
theorem regrown_tab {f : FuncId} {args : Array Value} {w : World} {d : Nat} {os : Array Obj} {v : Value} (ht : Tab w)
  (h : ∀ W : World, Tab W → Calls Tryz.prog f args W fun e w' => e = .returned v ∧ Below W.heap.size W w') : Calls Tryz.prog f args (Go.Sort.grow (redrawn w d) os) fun e w'' => e = .returned v ∧ ∃ p : Regrown, w'' = Go.Sort.grow (redrawn w p.d) p.os :=
 Calls.regrown_of (h _ (ht.bel (below_regrown _ _ _)))
def EnvR (R : Nat) (w : World) : Prop := ∃ w0, Env w0 ∧ Below w0.heap.size w0 w ∧ w0.heap.size ≤ R
section
variable {R : Nat} {w w' : World}
theorem EnvR.env (h : EnvR R w) : Env w := by
 obtain ⟨w0, he, hb, _⟩ := h
 exact he.bel hb
theorem EnvR.wr {ps : List Addr} (h : EnvR R w) (k : Wrt ps w w') (hp : ∀ x ∈ ps, R ≤ x.block) : EnvR R w' := by
 obtain ⟨w0, he, hb, hR⟩ := h
 exact ⟨w0, he, hb.trans (k.below hb.size fun x hx => Nat.le_trans hR (hp x hx)), hR⟩
theorem EnvR.bel (h : EnvR R w) (hb : Below w.heap.size w w') : EnvR R w' := h.wr (Wrt.of_below (ps := []) hb) fun x hx => by cases hx
theorem EnvR.adv {ts : List Tk} {t : TypeId} {cs : Array Value} {j : Nat} (h : EnvR R w) (k : Adv ts R t cs w j w') : EnvR R w' := h.wr k.2 fun x hx => by simp at hx; rw [hx]; exact Nat.le_refl _
end
theorem wholeT_atoi {T : Tk} {n : Int} (hk : T.kind = 2) (hd : T.text.head? ≠ some 45) (h : atoiAll T.text = .ok n) : (wholeT T).isSome = (decide (T.text.length ≤ 15) && decide (itoa n = T.text)) ∧ ((wholeT T).isSome = true → ∃ m : Nat, n = (m : Int) ∧ m < 1000000000000000 ∧ wholeT T = some m) := by
 have hw : wholeT T = intO T.text := by unfold wholeT; rw [if_pos hk]
 obtain ⟨h1, h2⟩ := intO_atoi T.text h
 rw [hw]
 have hn : itoa n = T.text → 0 ≤ n := fun e => by
  rcases Int.lt_or_le n 0 with k | k
  ·exfalso
   apply hd
   rw [← e, show n = -((n.natAbs : Nat) : Int) by omega, Lib.itoa_neg _ (by omega)]
   rfl
  ·exact k
 constructor
 ·rw [h1]
  by_cases e : itoa n = T.text
  ·rw [decide_eq_true (hn e), Bool.true_and]
  ·rw [decide_eq_false e, Bool.and_false, Bool.and_false]
 ·intro hs
  have h3 := h2 hs
  rw [hs] at h1
  have h4 := h1.symm
  simp only [Bool.and_eq_true, decide_eq_true_eq] at h4
  exact ⟨n.toNat, by omega, (intO_val h3).2, h3⟩
def resT (M : Bool) (d : Nat) : Option Nat → Except Nat (Int × Nat)
 | some n => .ok (if M then -(n : Int) else (n : Int), d + 1)
 | none => .error d
set_option maxRecDepth 100000 in
set_option maxHeartbeats 2000000 in
theorem number_any (w : World) (R : Nat) (t : TypeId) (cs : Array Value) (ts : List Tk) (i : Nat) (h : TokR w R t cs ts i) (hi : i < ts.length) (hE : Ends ts) (he : EnvR R w) :
  Calls Tryz.prog 116 #[.pointer (some ⟨R, 0, none⟩)] w (TwoE ts R t cs w (fun n => .int .i64 n) (numT ts i)) := by
 obtain ⟨M, hM⟩ : ∃ M, minusT (tk ts i) = M := ⟨_, rfl⟩
 obtain ⟨d, hd⟩ : ∃ d, digT ts i = d := ⟨_, rfl⟩
 have hR : numT ts i = resT M d (wholeT (tk ts d)) := by
  unfold numT resT
  rw [hM, hd]
  cases wholeT (tk ts d) <;> rfl
 rw [hR]
 clear hR
 have hdM : d = if M then i + 1 else i := by rw [← hd, ← hM]; rfl
 have hdl : d < ts.length := by
  rw [hdM]
  split
  ·rename_i k
   subst k
   refine hE.more i hi ?_
   simp only [minusT, Bool.and_eq_true, decide_eq_true_eq] at hM
   rw [hM.1]
   decide
  ·exact hi
 obtain ⟨sg, hsg⟩ : ∃ sg : Int, sg = if M then -1 else 1 := ⟨_, rfl⟩
 have HN := nextH (R := R) (t := t) i hi
 have HN2 := nextH (R := R) (t := t) d hdl
 have HF : Hid (∀ w cs, TokR w R t cs ts d → Calls Tryz.prog 92 #[.pointer (some ⟨R, 0, none⟩)] w fun e w' => e = panE ts d ∧ Below w.heap.size w w') := Lib.hid fun w cs h => fail_any w R t cs ts d h hdl
 have hb := hE.len
 replace he := Lib.hid he
 replace h := Lib.hid h
 obtain ⟨T1, hT1⟩ : ∃ T, tk ts i = T := ⟨_, rfl⟩
 obtain ⟨T2, hT2⟩ : ∃ T, tk ts d = T := ⟨_, rfl⟩
 have htx := hE.txt d hdl
 have hdg := hE.dig d hdl
 rw [hT1] at HN hM
 rw [hT2] at HN2 htx hdg ⊢
 have hRn : wholeT T2 = none → resT M d (wholeT T2) = .error d := fun k => by rw [k]; rfl
 have hRs : ∀ m, wholeT T2 = some m → resT M d (wholeT T2) = .ok (if M then -(m : Int) else (m : Int), d + 1) := fun m k => by rw [k]; rfl
 generalize resT M d (wholeT T2) = Res at *
 replace hRn := Lib.hid hRn
 replace hRs := Lib.hid hRs
 obtain ⟨XS1, hX1, eT1⟩ := tkV_mk T1
 obtain ⟨XS2, hX2, eT2⟩ := tkV_mk T2
 rw [eT1] at HN
 rw [eT2] at HN2
 have e2 : by_ XS2 = T2.text := by rw [hX2]
 have HA : Hid (∀ w, Env w → Calls Tryz.prog 129 #[.string XS2] w fun e w' => (∃ n E, e = .returned (.tuple #[.int .i64 n, E]) ∧ Hid (atR T2.text n E)) ∧ Below w.heap.size w w') := Lib.hid fun w he => by
  have := atoi_env XS2 (by rw [hX2]; exact htx) w he
  rw [e2] at this
  exact this
 clear eT1 eT2 hT1 hT2 hE hd
 have hM' : M = (decide (T1.kind = 3) && decide (XS1 = ⟨#[45]⟩)) := by
  rw [← hM, minusT]
  congr 1
  rw [hX1]
  by_cases k : T1.text = [45]
  ·rw [decide_eq_true k, k]; rfl
  ·rw [decide_eq_false k, decide_eq_false (fun e => k (by injection e with e; have := congrArg Array.toList e; simpa using this))]
 clear hM hX1
 generalize T1.kind = K1 at *
 generalize T1.line = L1 at *
 generalize T1.col = C1 at *
 replace hM' := Lib.hid hM'
 replace hdM := Lib.hid hdM
 replace hsg := Lib.hid hsg
 replace hdg := Lib.hid hdg
 replace htx := Lib.hid htx
 replace hX2 := Lib.hid hX2
 replace e2 := Lib.hid e2
 go_enter Tryz.func116, Tryz.ntmps116
 go_wp2_with fail
 refine (HN.out w _ h.out).mono ?_
 rintro e w1 ⟨rfl, HB⟩
 clear HN
 go_upto_region 3 with fail
 generalize hWW : World.alloc _ _ = WW
 have HBW : Hid (Below w.heap.size w WW) := Lib.hid (by rw [← hWW]; exact below_al HB _)
 have k1 : At WW w1.heap.size 107 #[.int .i64 K1, .string XS1, .int .i64 L1, .int .i64 C1] := by rw [← hWW]; exact At.new' rfl
 clear hWW HB
 generalize w1.heap.size = G1 at *
 have q0 : WW.cell? ⟨G1, 0, none⟩ = some (.int .i64 K1) := k1.c 0
 have q1 : WW.cell? ⟨G1, 1, none⟩ = some (.string XS1) := k1.c 1
 go_cut [17] (fun b wn => b = .bool M ∧ WW = wn)
 case first =>
  by_cases c1 : K1 = 3
  ·subst c1
   by_cases c2 : XS1 = ⟨#[45]⟩
   ·subst c2
    have hm : M = true := by rw [hM'.out]; rfl
    go_wp2_with fail
    go_meet
    exact ⟨by rw [hm], rfl⟩
   ·have hm : M = false := by rw [hM'.out, decide_eq_false c2, Bool.and_false]
    have es := str_ne c2
    rw [show (⟨#[45]⟩ : ByteArray).toList = [45] from by simp] at es
    go_wp2_with fail
    go_meet
    exact ⟨by rw [hm], rfl⟩
  ·have hm : M = false := by rw [hM'.out, decide_eq_false c1, Bool.false_and]
   have es : (K1 == 3) = false := by simp [c1]
   go_wp2_with fail
   go_meet
   exact ⟨by rw [hm], rfl⟩
 case rest =>
  obtain ⟨rfl, rfl⟩ := hcut
  clear q0 q1 k1 hM'
  go_upto_if 17 with fail
  go_cut [3] (fun v wn => v = .int .i64 sg ∧ Hid (Adv ts R t cs w d wn))
  case first =>
   cases M with
   | false =>
    have hs : sg = 1 := hsg.out
    have hA : Hid (Adv ts R t cs w d WW) := Lib.hid (by rw [show d = i from hdM.out]; exact h.out.stay HBW.out)
    go_wp2_with fail
    go_meet
    exact ⟨by rw [hs], hA⟩
   | true =>
    have hs : sg = -1 := hsg.out
    have hT := h.out.bel HBW.out
    have x1 : WW.cell? ⟨R, 1, none⟩ = some (.int .i64 (i : Int)) := by
     have q := hT.own.c 1
     rw [q]; exact hT.at_
    have fr : WW.frozen? ⟨R, 1, none⟩ = false := hT.own.f 1
    have hw : IntKind.i64.wrap ((i : Int) + 1) = ((i + 1 : Nat) : Int) := wrap_in (by omega)
    have hA : Hid (Adv ts R t cs w d (WW.setCell ⟨R, 1, none⟩ (.int .i64 ((i : Int) + 1)))) := Lib.hid (h.out.step HBW.out d (by rw [show d = i + 1 from hdM.out]; omega) (Below.refl _ _))
    clear hT
    go_wp2_with fail
    go_meet
    exact ⟨by rw [hs], hA⟩
  case rest =>
   obtain ⟨rfl, hA⟩ := hcut
   clear h hdM HBW
   obtain ⟨B, hB⟩ : ∃ B, B = !(wholeT T2).isSome := ⟨_, rfl⟩
   go_wp2_with fail
   refine (HN2.out wc _ hA.out.1).mono ?_
   rintro e w2 ⟨rfl, HB2⟩
   go_wp2_with fail
   have hEn : Env (w2.alloc (.cells #[.int .i64 T2.kind, .string XS2, .int .i64 T2.line, .int .i64 T2.col] 107)) := (((he.out.adv hA.out).bel HB2).bel (below_al (Below.refl _ _) _)).env
   refine (HA.out _ hEn).mono ?_
   rintro e w3 ⟨⟨n, E, rfl, hq⟩, HB3⟩
   have kt : At w3 w2.heap.size 107 #[.int .i64 T2.kind, .string XS2, .int .i64 T2.line, .int .i64 T2.col] := (At.new' rfl).bel HB3
   have HB := below_then (below_al HB2 _) HB3
   have hTb : Hid (Tab w3) := Lib.hid (hEn.bel HB3).tab
   clear hEn HB2 HB3 HN2 HA
   generalize w2.heap.size = G2 at *
   have hsz : XS2.size = T2.text.length := by rw [← e2.out]; rfl
   have hXI : ∀ n : Int, (⟨(itoa n).toArray⟩ : ByteArray) = XS2 ↔ itoa n = T2.text := fun n => by
    rw [hX2.out]
    exact ⟨fun e => by injection e with e; have := congrArg Array.toList e; simpa using this, fun e => by rw [e]⟩
   have hBk : T2.kind ≠ 2 → B = true := fun k => by rw [hB, wholeT_kind k]; rfl
   have hBb : (∀ v, atoiAll T2.text ≠ .ok v) → B = true := fun k => by rw [hB, wholeT_bad k]; rfl
   have hBn : T2.kind = 2 → atoiAll T2.text = .ok n → B = !(decide (T2.text.length ≤ 15) && decide (itoa n = T2.text)) := fun k1 k2 => by rw [hB, (wholeT_atoi k1 (hdg.out k1) k2).1]
   have hBm : B = false → ∃ m : Nat, n = (m : Int) ∧ m < 1000000000000000 ∧ wholeT T2 = some m := fun k => by
    have hk : T2.kind = 2 := Decidable.byContradiction fun q => by rw [hBk q] at k; cases k
    rcases hq.out with ⟨_, q⟩ | ⟨_, q⟩
    ·refine (wholeT_atoi hk (hdg.out hk) q).2 ?_
     rw [hB] at k
     simpa using k
    ·rw [hBb q] at k; cases k
   have hBs : Hid (B = !(wholeT T2).isSome) := Lib.hid hB
   replace hBk := Lib.hid hBk
   replace hBb := Lib.hid hBb
   replace hBn := Lib.hid hBn
   replace hBm := Lib.hid hBm
   replace hXI := Lib.hid hXI
   clear hB hdg htx hX2 e2
   generalize T2.kind = K2 at *
   generalize T2.line = L2 at *
   generalize T2.col = C2 at *
   have q0 : w3.cell? ⟨G2, 0, none⟩ = some (.int .i64 K2) := kt.c 0
   have q1 : w3.cell? ⟨G2, 1, none⟩ = some (.string XS2) := kt.c 1
   have K0 := cell_regrown q0
   have K1 := cell_regrown q1
   go_upto_region 8 with fail
   go_cut [52] (fun u wx => u = .bool B ∧ Below w3.heap.size w3 wx)
   case first =>
    by_cases c1 : K2 = 2
    rotate_left
    ·have hBv : Hid (B = true) := Lib.hid (hBk.out c1)
     have f1 : (K2 != 2) = true := by simp [c1]
     have f1' : (K2 == 2) = false := by simp [c1]
     clear hBk hBb hBn hBm hq c1
     refine wp_region_quiet_below (by kernel_rfl) (by kernel_rfl) ?_
     repeat (go_big_quiet_step ((first | fail)))
     refine wpQuiet_nil ?_
     intro v9 hb9'
     have hb9 := below_of_regrown hb9'
     clear hb9'
     go_wp2_with fail
     go_meet
     exact ⟨by rw [hBv.out], hb9⟩
    subst c1
    rcases hq.out with ⟨rfl, ha⟩ | ⟨⟨N, rfl⟩, ha⟩
    rotate_left
    ·have hBv : Hid (B = true) := Lib.hid (hBb.out ha)
     clear hBk hBb hBn hBm hq ha
     refine wp_region_quiet_below (by kernel_rfl) (by kernel_rfl) ?_
     repeat (go_big_quiet_step ((first | fail)))
     refine wpQuiet_nil ?_
     intro v9 hb9'
     have hb9 := below_of_regrown hb9'
     clear hb9'
     go_wp2_with fail
     go_meet
     exact ⟨by rw [hBv.out], hb9⟩
    have hBe := hBn.out rfl ha
    have hbd := Lib.atoiAll_bounds ha
    have HI : Hid (∀ w, Tab w → Calls Tryz.prog 73 #[.int .i64 n] w fun e w' => e = .returned (.string ⟨(itoa n).toArray⟩) ∧ Below w.heap.size w w') := Lib.hid fun w ht => itoa_tab n hbd w ht
    by_cases c2 : T2.text.length ≤ 15
    rotate_left
    ·have hBv : Hid (B = true) := Lib.hid (by rw [hBe, decide_eq_false c2]; rfl)
     have f2 : decide ((15 : Int) < (XS2.size : Int)) = true := by rw [decide_eq_true_eq, hsz]; omega
     have f2n : decide (15 < XS2.size) = true := by rw [decide_eq_true_eq, hsz]; omega
     clear hBk hBb hBn hBm hq ha hbd hBe c2 hsz
     refine wp_region_quiet_below (by kernel_rfl) (by kernel_rfl) ?_
     repeat (go_big_quiet_step ((first | fail)))
     refine wpQuiet_nil ?_
     intro v9 hb9'
     have hb9 := below_of_regrown hb9'
     clear hb9'
     go_wp2_with fail
     go_meet
     exact ⟨by rw [hBv.out], hb9⟩
    have f2 : decide ((15 : Int) < (XS2.size : Int)) = false := by rw [decide_eq_false_iff_not, hsz]; omega
    have f2n : decide (15 < XS2.size) = false := by rw [decide_eq_false_iff_not, hsz]; omega
    have hXn := hXI.out n
    obtain ⟨IS, hIS⟩ : ∃ IS : ByteArray, IS = ⟨(itoa n).toArray⟩ := ⟨_, rfl⟩
    rw [← hIS] at HI hXn
    by_cases c3 : IS = XS2
    ·have hBv : Hid (B = false) := Lib.hid (by rw [hBe, decide_eq_true c2, decide_eq_true (hXn.1 c3)]; rfl)
     have f3 := str_eq c3
     have f3n : (IS.toList != XS2.toList) = false := by rw [bne, f3]; rfl
     clear hBk hBb hBn hBm hq ha hbd hBe c2 hsz hXn hIS c3
     refine wp_region_quiet_below (by kernel_rfl) (by kernel_rfl) ?_
     repeat (go_big_quiet_step ((first | with_reducible exact regrown_tab hTb.out HI.out)))
     refine wpQuiet_nil ?_
     intro v9 hb9'
     have hb9 := below_of_regrown hb9'
     clear hb9'
     go_wp2_with fail
     go_meet
     exact ⟨by rw [hBv.out], hb9⟩
    ·have hBv : Hid (B = true) := Lib.hid (by rw [hBe, decide_eq_false (fun k => c3 (hXn.2 k)), Bool.and_false]; rfl)
     have f3 := str_ne c3
     have f3n : (IS.toList != XS2.toList) = true := by rw [bne, f3]; rfl
     clear hBk hBb hBn hBm hq ha hbd hBe c2 hsz hXn hIS c3
     refine wp_region_quiet_below (by kernel_rfl) (by kernel_rfl) ?_
     repeat (go_big_quiet_step ((first | with_reducible exact regrown_tab hTb.out HI.out)))
     refine wpQuiet_nil ?_
     intro v9 hb9'
     have hb9 := below_of_regrown hb9'
     clear hb9'
     go_wp2_with fail
     go_meet
     exact ⟨by rw [hBv.out], hb9⟩
   case rest =>
    obtain ⟨rfl, hb4⟩ := hcut
    have hA' : Hid (Adv ts R t cs w d wc) := Lib.hid ((hA.out.then HB).then hb4)
    clear hA HB hb4 K0 K1 q0 q1 kt hTb
    cases B with
    | true =>
     have hn : wholeT T2 = none := by
      cases hw : wholeT T2 with
      | none => rfl
      | some m =>
       exfalso
       have := hBs.out
       rw [hw] at this
       cases this
     go_wp2_with fail
     refine (HF.out _ _ hA'.out.1).mono ?_
     rintro e w5 ⟨he5, hb5⟩
     subst he5
     unfold panE
     go_wp2_with fail
     refine ⟨rfl, ?_⟩
     rw [hRn.out hn]
     exact ⟨rfl, hA'.out.2.then hb5⟩
    | false =>
     obtain ⟨m, rfl, hm, hw⟩ := hBm.out rfl
     have x1 : wc.cell? ⟨R, 1, none⟩ = some (.int .i64 (d : Int)) := by
      have q := hA'.out.1.own.c 1
      rw [q]; exact hA'.out.1.at_
     have fr : wc.frozen? ⟨R, 1, none⟩ = false := hA'.out.1.own.f 1
     have hw1 : IntKind.i64.wrap ((d : Int) + 1) = ((d + 1 : Nat) : Int) := wrap_in (by omega)
     have hsm : IntKind.i64.wrap (sg * (m : Int)) = if M then -(m : Int) else (m : Int) := by
      rw [hsg.out]
      cases M
      ·simp only [Bool.false_eq_true, if_false, Int.one_mul]
       exact wrap_in (by omega)
      ·simp only [if_true]
       rw [show (-1 : Int) * (m : Int) = -(m : Int) by omega]
       exact wrap_in (by omega)
     have hA2 : Hid (Adv ts R t cs w (d + 1) (wc.setCell ⟨R, 1, none⟩ (.int .i64 ((d : Int) + 1)))) := Lib.hid (hA'.out.trans (hA'.out.1.step (Below.refl _ _) (d + 1) (by omega) (Below.refl _ _)))
     obtain ⟨V, hV⟩ : ∃ V : Int, (if M then -(m : Int) else (m : Int)) = V := ⟨_, rfl⟩
     rw [hV] at hsm
     replace hw := Lib.hid hw
     replace hV := Lib.hid hV
     clear hA' hsg hm
     go_wp2_with fail
     refine bodyPost_ret (v := .int .i64 V) (by simp [results, Tryz.results116, go_sem]) rfl ?_
     rw [hRs.out m hw.out]
     exact ⟨by rw [hV.out], hA2.out⟩
end Go.Proofs.YtccakklnbhcbdaaGreatDoor
set_option linter.unusedVariables false
namespace Go.Proofs.YtccakklnbhcbdaaGreatDoor
open Go.ChangeShapes Go.WideShapes Go.ChangeAt Go.RowKit
theorem nums_len (ts : List Tk) : ∀ (k i : Nat) {l : List Int} {j : Nat}, numsT ts k i = .ok (l, j) → l.length = k
 | 0, i, l, j, h => by
  rw [numsT] at h
  injection h with h
  injection h with h1 h2
  rw [← h1]; rfl
 | k + 1, i, l, j, h => by
  rw [numsT] at h
  split at h
  ·cases h
  ·split at h
   ·cases h
   ·rename_i h2
    injection h with h
    injection h with h1 _
    rw [← h1, List.length_cons, nums_len ts k _ h2]
theorem nums_snoc (ts : List Tk) : ∀ (k i : Nat) {l : List Int} {j : Nat}, numsT ts k i = .ok (l, j) → numsT ts (k + 1) i = match numT ts j with | .error e => .error e | .ok (n, j') => .ok (l ++ [n], j')
 | 0, i, l, j, h => by
  rw [numsT] at h
  injection h with h
  injection h with h1 h2
  subst h1 h2
  rw [numsT]
  cases numT ts i with
  | error e => rfl
  | ok p => obtain ⟨n, j'⟩ := p; simp only [numsT]; rfl
 | k + 1, i, l, j, h => by
  rw [numsT] at h
  rw [numsT]
  cases h1 : numT ts i with
  | error e => rw [h1] at h; cases h
  | ok p =>
   obtain ⟨n, j1⟩ := p
   rw [h1] at h
   dsimp only at h ⊢
   cases h2 : numsT ts k j1 with
   | error e => rw [h2] at h; cases h
   | ok q =>
    obtain ⟨m, j2⟩ := q
    rw [h2] at h
    dsimp only at h
    injection h with h
    injection h with e1 e2
    subst e1 e2
    rw [nums_snoc ts k j1 h2]
    cases numT ts j2 with
    | error e => rfl
    | ok r => obtain ⟨a, b⟩ := r; rfl
theorem nums_err (ts : List Tk) (i : Nat) : ∀ (d k : Nat) {e : Nat}, numsT ts k i = .error e → numsT ts (k + d) i = .error e
 | 0, k, e, h => h
 | d + 1, k, e, h => by
  have := nums_err ts i d k h
  rw [show k + (d + 1) = (k + d) + 1 by omega]
  revert this
  generalize k + d = m
  clear h
  induction m generalizing i with
  | zero => intro h; rw [numsT] at h; cases h
  | succ m ih =>
   intro h
   rw [numsT] at h ⊢
   cases h1 : numT ts i with
   | error e' => rw [h1] at h; exact h
   | ok p =>
    obtain ⟨n, j⟩ := p
    rw [h1] at h
    dsimp only at h ⊢
    cases h2 : numsT ts m j with
    | error e' =>
     rw [h2] at h
     rw [ih j (by rw [h2]; exact h)]
    | ok q => rw [h2] at h; obtain ⟨_, _⟩ := q; cases h
theorem num_lt {ts : List Tk} (hE : Ends ts) {i : Nat} (hi : i < ts.length) {n : Int} {j : Nat} (h : numT ts i = .ok (n, j)) : j < ts.length := by
 unfold numT at h
 split at h
 ·rename_i m hm
  injection h with h
  injection h with _ h
  have hk : (tk ts (digT ts i)).kind = 2 := Decidable.byContradiction fun q => by
   rw [wholeT_kind q] at hm; cases hm
  have hd : digT ts i < ts.length := by
   unfold digT
   split
   ·rename_i k
    simp only [minusT, Bool.and_eq_true, decide_eq_true_eq] at k
    exact hE.more i hi (by rw [k.1]; decide)
   ·exact hi
  have := hE.more _ hd (by rw [hk]; decide)
  omega
 ·cases h
theorem nums_lt {ts : List Tk} (hE : Ends ts) : ∀ (k i : Nat) {l : List Int} {j : Nat}, i < ts.length → numsT ts k i = .ok (l, j) → j < ts.length
 | 0, i, l, j, hi, h => by
  rw [numsT] at h
  injection h with h
  injection h with _ h2
  omega
 | k + 1, i, l, j, hi, h => by
  rw [numsT] at h
  split at h
  ·cases h
  ·rename_i h1
   split at h
   ·cases h
   ·rename_i h2
    injection h with h
    injection h with _ e
    exact e ▸ nums_lt hE k _ (num_lt hE hi h1) h2
def nps (R Q o k : Nat) : List Addr := ⟨R, 1, none⟩ :: (List.range k).map fun c => ⟨Q, o + c, none⟩
def NumsE (ts : List Tk) (R : Nat) (t : TypeId) (w : World) (v0 : Value) (Q o k : Nat) : Except Nat (List Int × Nat) → Ending → World → Prop
 | .ok (l, j), e, w' => e = .returned (.tuple #[]) ∧ (∃ cs, cs[0]? = some v0 ∧ TokR w' R t cs ts j) ∧ (∀ (c : Nat) (hc : c < l.length), w'.cell? ⟨Q, o + c, none⟩ = some (.int .i64 l[c])) ∧ Wrt (nps R Q o k) w w'
 | .error j, e, w' => e = panE ts j ∧ Wrt (nps R Q o k) w w'
theorem nps_mem {R Q o k : Nat} {x : Addr} (h : x ∈ nps R Q o k) : x = ⟨R, 1, none⟩ ∨ ∃ c, c < k ∧ x = ⟨Q, o + c, none⟩ := by
 unfold nps at h
 rcases List.mem_cons.1 h with h | h
 ·exact .inl h
 ·obtain ⟨c, hc, rfl⟩ := List.mem_map.1 h
  exact .inr ⟨c, List.mem_range.1 hc, rfl⟩
theorem nps_up {R Q o c k : Nat} (h : c ≤ k) : ∀ x ∈ nps R Q o c, x ∈ nps R Q o k := fun x hx => by
 rcases nps_mem hx with rfl | ⟨d, hd, rfl⟩
 ·exact List.mem_cons_self
 ·exact List.mem_cons_of_mem _ (List.mem_map.2 ⟨d, List.mem_range.2 (by omega), rfl⟩)
theorem Wrt.cell {ps : List Addr} {w w' : World} {k j : Nat} {t : TypeId} {cs : Array Value} (h : Wrt ps w w') (ha : At w k t cs) (hn : (⟨k, j, none⟩ : Addr) ∉ ps) : w'.cell? ⟨k, j, none⟩ = w.cell? ⟨k, j, none⟩ := by
 obtain ⟨cs', h1, _, h3⟩ := h.at ha
 rw [h1.c j, ha.c j, h3 j hn]
theorem nums_step {ts : List Tk} {R : Nat} {t : TypeId} {w wr w1 : World} {v0 : Value} {Q o c j j' : Nat} {l : List Int} {n : Int} {cs1 : Array Value} {tQ : TypeId} {cQ : Array Value} (hT : TokR wr R t cs1 ts j) (h1 : cs1[0]? = some v0)
  (hl : ∀ (d : Nat) (hd : d < l.length), wr.cell? ⟨Q, o + d, none⟩ = some (.int .i64 l[d])) (hW : Wrt (nps R Q o c) w wr) (hA : Adv ts R t cs1 wr j' w1) (hQ : At wr Q tQ cQ) (hlc : l.length = c) (hz : o + c < cQ.size) (hRQ : R ≤ Q) (ho : Q = R → 2 ≤ o) :
  NumsE ts R t w v0 Q o (c + 1) (.ok (l ++ [n], j')) (.returned (.tuple #[])) (w1.setCell ⟨Q, o + c, none⟩ (.int .i64 n)) := by
 obtain ⟨cQ2, hQ2, hz2, -⟩ := hA.2.at hQ
 have hS := Wrt.set (j := o + c) hQ2 (.int .i64 n)
 have hQ3 := hQ2.put (o + c) (.int .i64 n)
 refine ⟨rfl, ?_, ?_, ?_⟩
 ·have g0 : (cs1.setIfInBounds 1 (.int .i64 ((j' : Nat) : Int)))[0]? = some v0 := by rw [Array.getElem?_setIfInBounds_ne (by omega)]; exact h1
  by_cases hQR : Q = R
  ·subst hQR
   have := ho rfl
   have e := hQ2.symm.trans hA.1.own
   injection e with e
   injection e with e1 e2
   subst e1 e2
   refine ⟨_, ?_, hA.1.wr hS (fun x hx => by simp at hx; rw [hx]; exact Nat.le_refl _) hQ3 (by simp) (by rw [Array.getElem?_setIfInBounds_ne (by omega)]) j' ?_⟩
   ·rw [Array.getElem?_setIfInBounds_ne (by omega)]; exact g0
   ·rw [Array.getElem?_setIfInBounds_ne (by omega)]; exact hA.1.at_
  ·exact ⟨_, g0, hA.1.wr hS (fun x hx => by simp at hx; rw [hx]; exact hRQ) (hA.1.own.far (fun e => hQR e.symm) _) rfl rfl j' hA.1.at_⟩
 ·intro d hd
  rw [List.length_append, List.length_singleton] at hd
  by_cases hdc : d = c
  ·subst hdc
   rw [hQ3.c, Array.getElem?_setIfInBounds, if_pos rfl, if_pos (by omega)]
   congr 2
   rw [List.getElem_append_right (by omega)]
   simp [hlc]
  ·have hd' : d < l.length := by omega
   rw [hQ3.c, Array.getElem?_setIfInBounds_ne (by omega), ← hQ2.c, hA.2.cell hQ ?_, hl d hd', List.getElem_append_left hd']
   intro hx
   simp only [List.mem_singleton] at hx
   injection hx with x1 x2
   have := ho x1
   omega
 ·refine (((hW.mono (nps_up (Nat.le_succ c))).trans (hA.2.mono (qs := nps R Q o (c + 1)) ?_) fun x hx => .inl hx).trans (hS.mono (qs := nps R Q o (c + 1)) ?_) fun x hx => .inl hx)
  ·intro x hx
   simp only [List.mem_singleton] at hx
   subst hx
   exact List.mem_cons_self
  ·intro x hx
   simp only [List.mem_singleton] at hx
   subst hx
   exact List.mem_cons_of_mem _ (List.mem_map.2 ⟨c, List.mem_range.2 (by omega), rfl⟩)
set_option maxRecDepth 100000 in
set_option maxHeartbeats 1000000 in
theorem numbers_any {Q o : Nat} (w : World) (R : Nat) (t : TypeId) (cs : Array Value) (ts : List Tk) (i : Nat) (h : TokR w R t cs ts i) (hi : i < ts.length) (hE : Ends ts) (he : EnvR R w)
  (P k cap : Nat) (tP : TypeId) (cP : Array Value) (hP : At w P tP cP) (hcP : ∀ c, c < k → cP[c]? = some (.pointer (some ⟨Q, o + c, none⟩))) (hPR : P ≠ R) (hPQ : P ≠ Q) (tQ : TypeId) (cQ : Array Value) (hQ : At w Q tQ cQ) (hz : o + k ≤ cQ.size) (hRQ : R ≤ Q) (ho : Q = R → 2 ≤ o) (hk : k ≤ cap) (hk9 : k ≤ 9) (v0 : Value) (h0 : cs[0]? = some v0) :
  Calls Tryz.prog 94 #[.pointer (some ⟨R, 0, none⟩), .slice (some ⟨P, 0, none⟩) k cap] w (NumsE ts R t w v0 Q o k (numsT ts k i)) := by
 have HN : Hid (∀ w cs j, TokR w R t cs ts j → j < ts.length → EnvR R w → Calls Tryz.prog 116 #[.pointer (some ⟨R, 0, none⟩)] w (TwoE ts R t cs w (fun n => .int .i64 n) (numT ts j))) := Lib.hid fun w cs j h hj he => number_any w R t cs ts j h hj hE he
 obtain ⟨Res, hRes⟩ : ∃ r, numsT ts k i = r := ⟨_, rfl⟩
 rw [hRes]
 have hS : Hid (NumsE ts R t w v0 Q o 0 (.ok ([], i)) (.returned (.tuple #[])) w) := Lib.hid ⟨rfl, ⟨cs, h0, h⟩, (fun c hc => absurd hc (Nat.not_lt_zero c)), (Wrt.of_below (ps := []) (Below.refl _ _)).mono (fun x hx => by cases hx)⟩
 replace h := Lib.hid h
 replace he := Lib.hid he
 replace hP := Lib.hid hP
 replace hQ := Lib.hid hQ
 replace hcP := Lib.hid hcP
 replace hRes := Lib.hid hRes
 replace hE := Lib.hid hE
 go_enter Tryz.func94, Tryz.ntmps94
 go_wp2_with fail
 go_loopg [8] k (fun g v wr => ∃ (c : Nat) (l : List Int) (j : Nat), v = .int .i64 (c : Int) ∧ c ≤ k ∧ Hid (g = k - c ∧ numsT ts c i = .ok (l, j)) ∧ Hid (NumsE ts R t w v0 Q o c (.ok (l, j)) (.returned (.tuple #[])) wr))
 case atStart => exact ⟨0, [], i, rfl, Nat.zero_le _, Lib.hid ⟨rfl, rfl⟩, hS⟩
 case round =>
  clear hS
  obtain ⟨c, l, j, rfl, hck, hr, hA⟩ := hrel
  obtain ⟨-, ⟨cs1, h1, hT⟩, hl, hW⟩ := hA.out
  have hnb : ∀ x ∈ nps R Q o c, x.block = R ∨ x.block = Q := fun x hx => by
   rcases nps_mem hx with rfl | ⟨d, _, rfl⟩
   ·exact .inl rfl
   ·exact .inr rfl
  have heR : EnvR R wr := he.out.wr hW fun x hx => by rcases hnb x hx with e | e <;> omega
  have hPc : At wr P tP cP := (hW.block P hP.out.lt fun x hx => by rcases hnb x hx with e | e <;> omega).trans hP.out
  obtain ⟨cQ1, hQ1, hQz, -⟩ := hW.at hQ.out
  have hj : j < ts.length := nums_lt hE.out c i hi hr.out.2
  by_cases hlt : c < k
  ·have p0 : wr.cell? ⟨P, c, none⟩ = some (.pointer (some ⟨Q, o + c, none⟩)) := by rw [hPc.c c]; exact hcP.out c hlt
   have HN1 := Lib.hid (HN.out wr cs1 j hT hj heR)
   have hsn := nums_snoc ts c i hr.out.2
   cases hn : numT ts j with
   | error e =>
    rw [hn] at hsn HN1
    have hRe : Hid (Res = .error e) := Lib.hid (by
     rw [← hRes.out]
     have := nums_err ts i (k - (c + 1)) (c + 1) hsn
     rwa [show c + 1 + (k - (c + 1)) = k by omega] at this)
    clear hRes HN hT hl hPc hQ1 hQz heR h1 hsn
    go_wp2_with fail
    refine HN1.out.mono ?_
    rintro e1 w1 ⟨he1, hW1⟩
    subst he1
    unfold panE
    go_wp2_with fail
    refine ⟨rfl, ?_⟩
    rw [hRe.out]
    exact ⟨rfl, (hW.mono (nps_up hck)).trans (hW1.mono (qs := nps R Q o k) fun x hx => by simp only [List.mem_singleton] at hx; subst hx; exact List.mem_cons_self) fun x hx => .inl hx⟩
   | ok q =>
    obtain ⟨n, j'⟩ := q
    rw [hn] at hsn HN1
    have hlc : l.length = c := nums_len ts c i hr.out.2
    have hst : Hid (∀ w1, Adv ts R t cs1 wr j' w1 → NumsE ts R t w v0 Q o (c + 1) (.ok (l ++ [n], j')) (.returned (.tuple #[])) (w1.setCell ⟨Q, o + c, none⟩ (.int .i64 n))) := Lib.hid fun w1 hA1 => nums_step hT h1 hl hW hA1 hQ1 hlc (by omega) hRQ ho
    replace hQ1 := Lib.hid hQ1
    clear hRes HN hT hl hPc heR h1 hlc
    go_wp2_with fail
    refine HN1.out.mono ?_
    rintro e1 w1 ⟨rfl, hA1⟩
    obtain ⟨cQ2, hQ2, hz2, -⟩ := hA1.2.at hQ1.out
    have q0 : w1.cell? ⟨Q, o + c, none⟩ = some (cQ2[o + c]'(by omega)) := by rw [hQ2.c]; exact Array.getElem?_eq_getElem (by omega)
    have fr : w1.frozen? ⟨Q, o + c, none⟩ = false := hQ2.f _
    have hN2 := Lib.hid (hst.out w1 hA1)
    clear hst hA1 HN1 hn
    go_wp2_with fail
    go_roundg (k - (c + 1))
    case measure => have := hr.out.1; omega
    case rel => exact ⟨c + 1, l ++ [n], j', by go_num, by omega, Lib.hid ⟨rfl, hsn⟩, hN2⟩
  ·have hc : c = k := by omega
   subst hc
   have hRo : Hid (Res = .ok (l, j)) := Lib.hid (by rw [← hRes.out]; exact hr.out.2)
   clear hRes HN
   go_wp2_with fail
   go_end0
   rw [hRo.out]
   exact hA.out
end Go.Proofs.YtccakklnbhcbdaaGreatDoor
set_option linter.unusedVariables false
namespace Go.Proofs.YtccakklnbhcbdaaGreatDoor
open Go.ChangeShapes Go.WideShapes Go.ChangeAt Go.RowKit
theorem NumsE.adv {ts : List Tk} {R : Nat} {t : TypeId} {w w1 w2 : World} {v0 : Value} {Q o k i j : Nat} {l : List Int} {e : Ending} {cs : Array Value} (hN : NumsE ts R t w1 v0 Q o k (.ok (l, j)) e w2) (h : TokR w R t cs ts i) (hb : Below w.heap.size w w1) (hQ : w.heap.size ≤ Q) : Adv ts R t cs w j w2 := by
 obtain ⟨-, ⟨cs', h0, hT⟩, -, hW⟩ := hN
 have hWw : Wrt [⟨R, 1, none⟩] w w2 := (Wrt.mono (qs := [⟨R, 1, none⟩]) (Wrt.of_below (ps := []) hb) fun x hx => by cases hx).trans hW fun x hx => by
  rcases nps_mem hx with rfl | ⟨d, _, rfl⟩
  ·exact .inl (by simp)
  ·exact .inr hQ
 refine ⟨?_, hWw⟩
 obtain ⟨cs2, k1, k2, k3⟩ := hWw.at h.own
 have e1 := k1.symm.trans hT.own
 injection e1 with e1
 injection e1 with e1 e2
 subst e1
 have : cs.setIfInBounds 1 (.int .i64 ((j : Nat) : Int)) = cs2 := by
  apply Array.ext_getElem?
  intro m
  rw [Array.getElem?_setIfInBounds]
  split
  ·rename_i e; subst e; rw [if_pos (by have := h.big; omega), hT.at_]
  ·rename_i hm
   rw [k3 m]
   simp only [List.mem_singleton]
   intro e
   injection e with _ e
   omega
 rw [this]
 exact hT
theorem NumsE.pan {ts : List Tk} {R : Nat} {t : TypeId} {w w1 w2 : World} {v0 : Value} {Q o k j : Nat} {e : Ending} (hN : NumsE ts R t w1 v0 Q o k (.error j) e w2) (hb : Below w.heap.size w w1) (hQ : w.heap.size ≤ Q) : e = panE ts j ∧ Wrt [⟨R, 1, none⟩] w w2 :=
 ⟨hN.1, (Wrt.mono (qs := [⟨R, 1, none⟩]) (Wrt.of_below (ps := []) hb) fun x hx => by cases hx).trans hN.2 fun x hx => by
  rcases nps_mem hx with rfl | ⟨d, _, rfl⟩
  ·exact .inl (by simp)
  ·exact .inr hQ⟩
theorem TokAt.below {B : Nat} {w w' : World} {g : Nat} {l : List Tk} (h : TokAt w (some ⟨g, 0, none⟩) l) (hb : Below B w w') (hg : g < B) : TokAt w' (some ⟨g, 0, none⟩) l := by
 intro k hk
 obtain ⟨g', e, c0, c1, c2, c3⟩ := h k hk
 obtain rfl : g = g' := by injection e with e; injection e
 exact ⟨g, rfl, (hb.cell hg).trans c0, (hb.cell hg).trans c1, (hb.cell hg).trans c2, (hb.cell hg).trans c3⟩
theorem TokR.below {B : Nat} {w w' : World} {R : Nat} {t : TypeId} {cs : Array Value} {ts : List Tk} {i : Nat} (h : TokR w R t cs ts i) (hb : Below B w w') (hR : R < B) : TokR w' R t cs ts i := by
 obtain ⟨g, c, e0, e1, e2, e3⟩ := h.l
 exact ⟨(hb.block R hR).trans h.own, h.big, ⟨g, c, e0, e1.below hb (by omega), e2, e3⟩, h.at_⟩
theorem below_sc {B b : Nat} {w w' : World} (h : Below B w w') (hb : B ≤ b) (j : Nat) (u : Value) : Below B w (w'.setCell ⟨b, j, none⟩ u) := h.setCell hb u
theorem Adv.young {ts : List Tk} {R : Nat} {t : TypeId} {cs : Array Value} {w w2 w3 : World} {j : Nat} (h : Adv ts R t cs w j w2) (hb : Below w.heap.size w2 w3) (hR : R < w.heap.size) : Adv ts R t cs w j w3 :=
 ⟨h.1.below hb hR, hb.os.trans h.2.os, hb.tape.trans h.2.tape, hb.output.trans h.2.output, Nat.le_trans h.2.size hb.size, fun k hk hp => (hb.block k hk).trans (h.2.block k hk hp), fun k cs' t' hk => by
  obtain ⟨c2, k1, k2, k3⟩ := h.2.cells k cs' t' hk
  exact ⟨c2, (hb.block k (Array.getElem?_eq_some_iff.1 hk).1).trans k1, k2, k3⟩⟩
def intsV (l : List Int) : Value := .agg (l.map (.int .i64 ·)).toArray
theorem six {l : List Int} (h : l.length = 6) : ∃ a b c d e f, l = [a, b, c, d, e, f] := by
 match l, h with
 | [a, b, c, d, e, f], _ => exact ⟨a, b, c, d, e, f, rfl⟩
set_option maxRecDepth 100000 in
set_option maxHeartbeats 1000000 in
theorem box_any (w : World) (R : Nat) (t : TypeId) (cs : Array Value) (ts : List Tk) (i : Nat) (h : TokR w R t cs ts i) (hi : i < ts.length) (hE : Ends ts) (he : EnvR R w) :
  Calls Tryz.prog 117 #[.pointer (some ⟨R, 0, none⟩)] w (TwoE ts R t cs w intsV (numsT ts 6 i)) := by
 obtain ⟨v0, h0⟩ : ∃ v0, cs[0]? = some v0 := by
  obtain ⟨g, c, e, _⟩ := h.l
  exact ⟨_, e⟩
 have hRl := h.own.lt
 obtain ⟨Res, hRes⟩ : ∃ r, numsT ts 6 i = r := ⟨_, rfl⟩
 rw [hRes]
 go_enter Tryz.func117, Tryz.ntmps117
 go_wp2_with fail
 generalize hWW : World.alloc _ _ = WW
 have k0 : At WW w.heap.size 60 #[.int .i64 0, .int .i64 0, .int .i64 0, .int .i64 0, .int .i64 0, .int .i64 0] := by rw [← hWW]; repeat (first | (with_reducible apply At.new'; (focus (simp; done))) | with_reducible apply At.al | with_reducible apply At.drw | with_reducible apply At.dr)
 have kQ : At WW (w.heap.size + 1) 60 #[.int .i64 0, .int .i64 0, .int .i64 0, .int .i64 0, .int .i64 0, .int .i64 0] := by rw [← hWW]; repeat (first | (with_reducible apply At.new'; (focus (simp; done))) | with_reducible apply At.al | with_reducible apply At.drw | with_reducible apply At.dr)
 have kP : At WW (w.heap.size + 1 + 1) 143 #[.pointer (some ⟨w.heap.size + 1, 0, none⟩), .pointer (some ⟨w.heap.size + 1, 1, none⟩), .pointer (some ⟨w.heap.size + 1, 2, none⟩), .pointer (some ⟨w.heap.size + 1, 3, none⟩), .pointer (some ⟨w.heap.size + 1, 4, none⟩), .pointer (some ⟨w.heap.size + 1, 5, none⟩)] := by rw [← hWW]; repeat (first | (with_reducible apply At.new'; (focus (simp; done))) | with_reducible apply At.al | with_reducible apply At.drw | with_reducible apply At.dr)
 have HB : Below w.heap.size w WW := by rw [← hWW]; repeat (first | with_reducible assumption | with_reducible exact Below.refl _ _ | with_reducible refine below_al ?_ _ | with_reducible refine below_drew ?_ | with_reducible refine below_drewN ?_ _ | with_reducible refine below_set ?_ (by dsimp only; omega) _)
 clear hWW
 refine (numbers_any (Q := w.heap.size + 1) (o := 0) WW R t cs ts i (h.bel HB) hi hE (he.bel HB) (w.heap.size + 1 + 1) 6 6 _ _ kP (fun c hc => ?_) (by omega) (by omega) _ _ kQ (by simp) (by omega) (fun e => absurd e (by omega)) (Nat.le_refl _) (by omega) v0 h0).mono ?_
 ·have hc6 : c = 0 ∨ c = 1 ∨ c = 2 ∨ c = 3 ∨ c = 4 ∨ c = 5 := by omega
  rcases hc6 with rfl | rfl | rfl | rfl | rfl | rfl <;> rfl
 rw [hRes]
 intro e w2 hN
 cases Res with
 | error j =>
  obtain ⟨rfl, hW⟩ := hN.pan HB (by omega)
  unfold panE
  clear hN
  go_wp2_with fail
  exact ⟨rfl, rfl, hW⟩
 | ok q =>
  obtain ⟨l, j⟩ := q
  have hA := Lib.hid (hN.adv h HB (by omega))
  obtain ⟨rfl, -, hl, hW⟩ := hN
  obtain ⟨a, b, c, d, f, g, rfl⟩ := six (nums_len ts 6 i hRes)
  have q0 : w2.cell? ⟨w.heap.size + 1, 0, none⟩ = some (.int .i64 a) := hl 0 (by simp)
  have q1 : w2.cell? ⟨w.heap.size + 1, 1, none⟩ = some (.int .i64 b) := hl 1 (by simp)
  have q2 : w2.cell? ⟨w.heap.size + 1, 2, none⟩ = some (.int .i64 c) := hl 2 (by simp)
  have q3 : w2.cell? ⟨w.heap.size + 1, 3, none⟩ = some (.int .i64 d) := hl 3 (by simp)
  have q4 : w2.cell? ⟨w.heap.size + 1, 4, none⟩ = some (.int .i64 f) := hl 4 (by simp)
  have q5 : w2.cell? ⟨w.heap.size + 1, 5, none⟩ = some (.int .i64 g) := hl 5 (by simp)
  have z0 : At w2 w.heap.size 60 #[.int .i64 0, .int .i64 0, .int .i64 0, .int .i64 0, .int .i64 0, .int .i64 0] := (hW.block w.heap.size k0.lt fun x hx => by
   rcases nps_mem hx with rfl | ⟨y, _, rfl⟩
   ·dsimp only; omega
   ·dsimp only; omega).trans k0
  have p0 : w2.cell? ⟨w.heap.size, 0, none⟩ = some (.int .i64 0) := z0.c 0
  have f0 : w2.frozen? ⟨w.heap.size, 0, none⟩ = false := z0.f 0
  have p1 : w2.cell? ⟨w.heap.size, 1, none⟩ = some (.int .i64 0) := z0.c 1
  have f1 : w2.frozen? ⟨w.heap.size, 1, none⟩ = false := z0.f 1
  have p2 : w2.cell? ⟨w.heap.size, 2, none⟩ = some (.int .i64 0) := z0.c 2
  have f2 : w2.frozen? ⟨w.heap.size, 2, none⟩ = false := z0.f 2
  have p3 : w2.cell? ⟨w.heap.size, 3, none⟩ = some (.int .i64 0) := z0.c 3
  have f3 : w2.frozen? ⟨w.heap.size, 3, none⟩ = false := z0.f 3
  have p4 : w2.cell? ⟨w.heap.size, 4, none⟩ = some (.int .i64 0) := z0.c 4
  have f4 : w2.frozen? ⟨w.heap.size, 4, none⟩ = false := z0.f 4
  have p5 : w2.cell? ⟨w.heap.size, 5, none⟩ = some (.int .i64 0) := z0.c 5
  have f5 : w2.frozen? ⟨w.heap.size, 5, none⟩ = false := z0.f 5
  clear hl hW hRes k0 kQ kP HB
  go_wp2_with fail
  have hY : Hid (Adv ts R t cs w j ((((((w2.setCell ⟨w.heap.size, 0, none⟩ (.int .i64 a)).setCell ⟨w.heap.size, 1, none⟩ (.int .i64 b)).setCell ⟨w.heap.size, 2, none⟩ (.int .i64 c)).setCell ⟨w.heap.size, 3, none⟩ (.int .i64 d)).setCell ⟨w.heap.size, 4, none⟩ (.int .i64 f)).setCell ⟨w.heap.size, 5, none⟩ (.int .i64 g))) := Lib.hid (hA.out.young (below_sc (below_sc (below_sc (below_sc (below_sc (below_sc (Below.refl _ _) (Nat.le_refl _) _ _) (Nat.le_refl _) _ _) (Nat.le_refl _) _ _) (Nat.le_refl _) _ _) (Nat.le_refl _) _ _) (Nat.le_refl _) _ _) hRl)
  have ky := (((((z0.put 0 (.int .i64 a)).put 1 (.int .i64 b)).put 2 (.int .i64 c)).put 3 (.int .i64 d)).put 4 (.int .i64 f)).put 5 (.int .i64 g)
  generalize hW3 : World.setCell _ _ _ = W3 at *
  have r0 : W3.cell? ⟨w.heap.size, 0, none⟩ = some (.int .i64 a) := ky.c 0
  have r1 : W3.cell? ⟨w.heap.size, 1, none⟩ = some (.int .i64 b) := ky.c 1
  have r2 : W3.cell? ⟨w.heap.size, 2, none⟩ = some (.int .i64 c) := ky.c 2
  have r3 : W3.cell? ⟨w.heap.size, 3, none⟩ = some (.int .i64 d) := ky.c 3
  have r4 : W3.cell? ⟨w.heap.size, 4, none⟩ = some (.int .i64 f) := ky.c 4
  have r5 : W3.cell? ⟨w.heap.size, 5, none⟩ = some (.int .i64 g) := ky.c 5
  exact bodyPost_ret (v := .agg #[.int .i64 a, .int .i64 b, .int .i64 c, .int .i64 d, .int .i64 f, .int .i64 g]) (by simp [results, Tryz.results117, go_sem, r0, r1, r2, r3, r4, r5]) rfl ⟨rfl, hY.out⟩
end Go.Proofs.YtccakklnbhcbdaaGreatDoor
set_option linter.unusedVariables false
namespace Go.Proofs.YtccakklnbhcbdaaGreatDoor
open Go.ChangeShapes Go.WideShapes Go.ChangeAt Go.RowKit
def encS (s : ByteArray) : List Value := [.string s]
def RowAt {α : Type} (enc : α → List Value) (sz : Nat) (B : Nat) (w : World) (ao : Option Addr) (l : List α) : Prop :=
 ∀ (k : Nat) (hk : k < l.length), ∃ b off, ao = some ⟨b, off, none⟩ ∧ b < B ∧ ∀ (j : Nat) (u : Value), (enc l[k])[j]? = some u → w.cell? ⟨b, off + k * sz + j, none⟩ = some u
section
variable {α : Type} {enc : α → List Value} {sz B : Nat} {w w' : World} {ao : Option Addr} {l : List α}
theorem RowAt.bel (h : RowAt enc sz B w ao l) (hB : B ≤ w.heap.size) (hb : Below w.heap.size w w') : RowAt enc sz B w' ao l := by
 intro k hk
 obtain ⟨b, off, e, hlt, hc⟩ := h k hk
 exact ⟨b, off, e, hlt, fun j u hu => (hb.cell (Nat.lt_of_lt_of_le hlt hB)).trans (hc j u hu)⟩
theorem RowAt.mono {C : Nat} (h : RowAt enc sz B w ao l) (hBC : B ≤ C) : RowAt enc sz C w ao l := by
 intro k hk
 obtain ⟨b, off, e, hlt, hc⟩ := h k hk
 exact ⟨b, off, e, Nat.lt_of_lt_of_le hlt hBC, hc⟩
theorem RowAt.nil (w : World) (ao : Option Addr) : RowAt enc sz B w ao [] := fun k hk => absurd hk (by simp)
end
theorem RowAt.one {α : Type} {f : α → Value} {B : Nat} {w : World} {ao : Option Addr} {l : List α} (h : RowAt (fun x => [f x]) 1 B w ao l) (k : Nat) (hk : k < l.length) : ∃ b off, ao = some ⟨b, off, none⟩ ∧ w.cell? ⟨b, off + k, none⟩ = some (f l[k]) ∧ b < B := by
 obtain ⟨b, off, e, hlt, hc⟩ := h k hk
 have := hc 0 _ rfl
 rw [Nat.mul_one] at this
 exact ⟨b, off, e, this, hlt⟩
theorem At.three {w : World} {g : Nat} {t : TypeId} {x y z : Value} (h : At w g t #[x, y, z]) : w.cell? ⟨g, 0, none⟩ = some x ∧ w.cell? ⟨g, 1, none⟩ = some y ∧ w.cell? ⟨g, 2, none⟩ = some z := ⟨h.c 0, h.c 1, h.c 2⟩
def Row {α : Type} (w : World) (e : TypeId) (sz : Nat) (enc : α → List Value) (v : Value) (l : List α) : Prop := w.ownsRow 0 e sz v l.length (l.flatMap enc)
section
variable {α : Type} {w w' : World} {e : TypeId} {sz : Nat} {enc : α → List Value} {v : Value} {l : List α}
theorem flat_at (henc : ∀ x, (enc x).length = sz) : ∀ (l : List α) (k : Nat) (hk : k < l.length) (j : Nat), j < sz → (l.flatMap enc)[k * sz + j]? = (enc l[k])[j]?
 | x :: l, 0, _, j, hj => by
  rw [List.flatMap_cons, List.getElem?_append_left (by rw [henc]; omega), Nat.zero_mul, Nat.zero_add]
  rfl
 | x :: l, k + 1, hk, j, hj => by
  rw [List.flatMap_cons, List.getElem?_append_right (by rw [henc, Nat.succ_mul]; omega), henc, show (k + 1) * sz + j - sz = k * sz + j by rw [Nat.succ_mul]; omega]
  exact flat_at henc l k (by simpa using hk) j hj
theorem Row.view (h : Row w e sz enc v l) (henc : ∀ x, (enc x).length = sz) : ∃ ao cap, v = .slice ao l.length cap ∧ l.length ≤ cap ∧ cap ≤ 9223372036854775807 ∧ RowAt enc sz w.heap.size w ao l ∧ ((ao = none ∧ l.length = 0 ∧ cap = 0) ∨ ∃ g, ao = some ⟨g, 0, none⟩ ∧ v.ownBlock = some g) := by
 obtain ⟨hl, ⟨h1, h2⟩ | ⟨g, cap, cur, h1, h2, h3, h4, h5, h6, h7⟩⟩ := h
 ·exact ⟨none, 0, by rw [h1, h2], by omega, by omega, fun k hk => absurd hk (by omega), .inl ⟨rfl, h2, rfl⟩⟩
 ·refine ⟨some ⟨g, 0, none⟩, cap, h1, h4, by have : cap ≤ 2 ^ 63 - 1 := h5; omega, ?_, .inr ⟨g, rfl, by rw [h1]; rfl⟩⟩
  intro k hk
  refine ⟨g, 0, rfl, (Array.getElem?_eq_some_iff.1 h3).1, fun j u hu => ?_⟩
  have hj : j < sz := by rw [← henc l[k]]; exact (List.getElem?_eq_some_iff.1 hu).1
  have hc := cell_of_row w g (0 + k * sz + j) cur e (0, 0) h3
  rw [hc]
  have h8 := flat_at henc l k hk j hj
  rw [← h7, List.getElem?_take_of_lt, hu] at h8
  ·rw [show 0 + k * sz + j = k * sz + j by omega, ← h8]
   simp
  ·have : (k + 1) * sz ≤ l.length * sz := Nat.mul_le_mul_right sz hk
   rw [Nat.succ_mul] at this
   omega
theorem Row.keep (h : Row w e sz enc v l) (hb : ∀ b, v.ownBlock = some b → w'.heap[b]? = w.heap[b]?) : Row w' e sz enc v l := by
 obtain ⟨hl, h | ⟨g, cap, cur, h1, h2, h3, h4⟩⟩ := h
 ·exact ⟨hl, .inl h⟩
 ·exact ⟨hl, .inr ⟨g, cap, cur, h1, h2, (hb g (by rw [h1]; rfl)).trans h3, h4⟩⟩
theorem Row.lt (h : Row w e sz enc v l) {b : Nat} (hb : v.ownBlock = some b) : b < w.heap.size := by
 obtain ⟨hl, ⟨h1, h2⟩ | ⟨g, cap, cur, h1, h2, h3, h4⟩⟩ := h
 ·rw [h1] at hb; cases hb
 ·rw [h1] at hb
  injection hb with hb
  have hb : g = b := hb
  subst hb
  exact (Array.getElem?_eq_some_iff.1 h3).1
end
def Dj (a b : Option Nat) : Prop := ∀ x, a = some x → b = some x → False
theorem Dj.symm {a b : Option Nat} (h : Dj a b) : Dj b a := fun x h1 h2 => h x h2 h1
theorem Dj.ne {a : Nat} {b : Option Nat} (h : Dj (some a) b) : some a ≠ b := fun e => h a rfl e.symm
theorem Dj.up {a b b' : Option Nat} {n : Nat} (h : Dj a b) (ha : ∀ x, a = some x → x < n) (hb : b' = b ∨ b' = some n) : Dj a b' := by
 intro x h1 h2
 rcases hb with rfl | rfl
 ·exact h x h1 h2
 ·have := ha x h1
  injection h2 with h2
  omega
structure Frm (F : List (Option Nat)) (w w' : World) : Prop where
 os : w'.os = w.os
 tape : w'.tape = w.tape
 output : w'.output = w.output
 size : w.heap.size ≤ w'.heap.size
 block : ∀ k, k < w.heap.size → some k ∉ F → w'.heap[k]? = w.heap[k]?
section
variable {F F' : List (Option Nat)} {a w w' : World}
theorem Frm.of_below (h : Below w.heap.size w w') : Frm F w w' := ⟨h.os, h.tape, h.output, h.size, fun k hk _ => h.block k hk⟩
theorem Frm.trans (h : Frm F a w) (k : Frm F' w w') (hF : ∀ x, some x ∈ F' → some x ∈ F ∨ a.heap.size ≤ x) : Frm F a w' :=
 ⟨k.os.trans h.os, k.tape.trans h.tape, k.output.trans h.output, Nat.le_trans h.size k.size, fun i hi hn => (k.block i (Nat.lt_of_lt_of_le hi h.size) (fun hi2 => by
  rcases hF i hi2 with q | q
  ·exact hn q
  ·omega)).trans (h.block i hi hn)⟩
theorem Frm.below {B : Nat} (h : Frm F w w') (hB : B ≤ w.heap.size) (hF : ∀ x, some x ∈ F → B ≤ x) : Below B w w' :=
 ⟨h.os, h.tape, h.output, h.size, fun k hk => h.block k (Nat.lt_of_lt_of_le hk hB) (fun e => by have := hF k e; omega)⟩
end
theorem Row.at {α : Type} {w : World} {e : TypeId} {sz n cap : Nat} {enc : α → List Value} {ao : Option Addr} {l : List α} (h : Row w e sz enc (.slice ao n cap) l) (henc : ∀ x, (enc x).length = sz) : RowAt enc sz w.heap.size w ao l := by
 obtain ⟨ao', cap', e, _, _, h1, _⟩ := h.view henc
 injection e with e1 e2 e3
 rw [e1]
 exact h1
theorem isEmpty_len {α : Type} (l : List α) : l.isEmpty = decide (l.length = 0) := by cases l <;> simp
def IsS (l : List ByteArray) (v : Value) (w : World) : Prop := ∃ a c, v = .slice a l.length c ∧ l.length ≤ c ∧ c ≤ 9223372036854775807 ∧ RowAt encS 1 w.heap.size w a l
theorem IsS.up {l : List ByteArray} {v : Value} {w w' : World} (hb : Below w.heap.size w w') (h : IsS l v w) : IsS l v w' := by
 obtain ⟨a, c, h1, h2, h3, h4⟩ := h
 exact ⟨a, c, h1, h2, h3, (h4.bel (Nat.le_refl _) hb).mono hb.size⟩
theorem grown_after {w w4 w5 : World} {row : Option Nat} (hb : Below w.heap.size w w4) (hg : w4.grownBy w5 row) : w.grownBy w5 row :=
 ⟨hg.os.trans hb.os, hg.tape.trans hb.tape, hg.output.trans hb.output, Nat.le_trans hb.size hg.size, fun k hk hn => (hg.block k (Nat.lt_of_lt_of_le hk hb.size) hn).trans (hb.block k hk)⟩
theorem step_append_at {P : Program} (w : World) {ops : Array Oper} {o : Oper} {a : Act} {K : Act → World → Prop} {Q : Exit → Act → World → Prop} {E : Prop} (hgd : o.guard = none) (s x : Operand) (t : TypeId)
  (ho : o.op = .call { callee := .builtin .append, args := #[s, x], argTypes := #[t, t] })
  (base : Nat) (e : TypeId) (i : TypeInfo) (z : Value) (size bytes : Nat) (ht : P.underlying t = some (.slice e)) (hi : P.info? e = some i) (hz : i.zero = some z)
  (hsize : i.size = size) (hby : i.bytes = bytes) (hzs : z.cells.size = size) (hsz : 0 < size)
  (v : Value) (n : Nat) (xs : List Value) (hs : a.eval s = v) (hown : w.ownsRow base e size v n xs)
  (ad : Addr) (m c : Nat) (news : List Value) (hx : a.eval x = .slice (some ad) m c) (hl : news.length = m * size) (hnews : ∀ j u, news[j]? = some u → w.cell? (ad.add j) = some u) (h1 : ∀ u ∈ news, u.oneCell' = true)
  (h63 : n + m ≤ maxLen) (hbytes : (n + m) * bytes ≤ 140737488355328) (hbase : base ≤ w.heap.size)
  (h : ∀ ao cap w', w'.ownsRow base e size (.slice ao (n + m) cap) (n + m) (xs ++ news) → w.grownBy w' v.ownBlock → ((Value.slice ao (n + m) cap).ownBlock = v.ownBlock ∨ (Value.slice ao (n + m) cap).ownBlock = some w.heap.size) → K (a.put o.dst (.slice ao (n + m) cap)) w') :
  if Region.wanted o (yielded ops a.tmps) = true then Oper.wp P o a w K Q else E := by
 have hw : Region.wanted o (yielded ops a.tmps) = true := by simp [Region.wanted, hgd]
 rw [if_pos hw]
 obtain ⟨v', w', hr, h2, h3, _, h5⟩ := run_append_own_at (P := P) w base t o.type e i z size bytes ht hi hz hsize hby hzs hsz v n xs hown ad m c news hl hnews h1 h63 hbytes hbase
 obtain ⟨ao, cap, rfl⟩ := own_slice h2
 unfold Oper.wp execOp
 simp only [ho, resolve, invoke, builtin, Sem.run_bind, Sem.run_pure, Result.andThen_ok, List.map_toArray, List.map_cons, List.map_nil, hs, hx, hr]
 exact h ao cap w' h2 h3 h5
theorem below_grown {a w w' : World} {row : Option Nat} (h : Below a.heap.size a w) (hg : w.grownBy w' row) (hr : ∀ b, row = some b → a.heap.size ≤ b) : Below a.heap.size a w' :=
 ⟨hg.os.trans h.os, hg.tape.trans h.tape, hg.output.trans h.output, Nat.le_trans h.size hg.size, fun k hk => (hg.block k (Nat.lt_of_lt_of_le hk h.size) (fun e => by have := hr k e.symm; omega)).trans (h.block k hk)⟩
theorem step_append_w {P : Program} (w : World) {ops : Array Oper} {o : Oper} {a : Act} {K : Act → World → Prop} {Q : Exit → Act → World → Prop} {E : Prop} (hw : Region.wanted o (yielded ops a.tmps) = true) (s x : Operand) (t : TypeId)
  (ho : o.op = .call { callee := .builtin .append, args := #[s, x], argTypes := #[t, t] })
  (base : Nat) (e : TypeId) (i : TypeInfo) (z : Value) (size bytes : Nat) (ht : P.underlying t = some (.slice e)) (hi : P.info? e = some i) (hz : i.zero = some z)
  (hsize : i.size = size) (hby : i.bytes = bytes) (hzs : z.cells.size = size) (hsz : 0 < size)
  (v : Value) (n : Nat) (xs : List Value) (hs : a.eval s = v) (hown : w.ownsRow base e size v n xs)
  (ad : Addr) (m c : Nat) (news : List Value) (hx : a.eval x = .slice (some ad) m c) (hl : news.length = m * size) (hnews : ∀ j u, news[j]? = some u → w.cell? (ad.add j) = some u) (h1 : ∀ u ∈ news, u.oneCell' = true)
  (h63 : n + m ≤ maxLen) (hbytes : (n + m) * bytes ≤ 140737488355328) (hbase : base ≤ w.heap.size)
  (h : ∀ ao cap w', w'.ownsRow base e size (.slice ao (n + m) cap) (n + m) (xs ++ news) → w.grownBy w' v.ownBlock → ((Value.slice ao (n + m) cap).ownBlock = v.ownBlock ∨ (Value.slice ao (n + m) cap).ownBlock = some w.heap.size) → K (a.put o.dst (.slice ao (n + m) cap)) w') :
  if Region.wanted o (yielded ops a.tmps) = true then Oper.wp P o a w K Q else E := by
 rw [if_pos hw]
 obtain ⟨v', w', hr, h2, h3, _, h5⟩ := run_append_own_at (P := P) w base t o.type e i z size bytes ht hi hz hsize hby hzs hsz v n xs hown ad m c news hl hnews h1 h63 hbytes hbase
 obtain ⟨ao, cap, rfl⟩ := own_slice h2
 unfold Oper.wp execOp
 simp only [ho, resolve, invoke, builtin, Sem.run_bind, Sem.run_pure, Result.andThen_ok, List.map_toArray, List.map_cons, List.map_nil, hs, hx, hr]
 exact h ao cap w' h2 h3 h5
theorem own_lt {w : World} {base n : Nat} {e : TypeId} {sz : Nat} {v : Value} {xs : List Value} (h : w.ownsRow base e sz v n xs) {b : Nat} (hb : v.ownBlock = some b) : b < w.heap.size ∧ base ≤ b := by
 obtain ⟨_, ⟨q, _⟩ | ⟨g, cap, cur, q1, q2, q3, _⟩⟩ := h
 ·rw [q] at hb; cases hb
 ·rw [q1] at hb
  have hb : some g = some b := hb
  injection hb with hb
  subst hb
  exact ⟨(Array.getElem?_eq_some_iff.1 q3).1, q2⟩
theorem own_weak {w : World} {base base' n : Nat} {e : TypeId} {sz : Nat} {v : Value} {xs : List Value} (h : w.ownsRow base e sz v n xs) (hb : base' ≤ base) : w.ownsRow base' e sz v n xs :=
 ⟨h.1, h.2.imp id fun ⟨g, cap, cur, h1, h2, h3⟩ => ⟨g, cap, cur, h1, Nat.le_trans hb h2, h3⟩⟩
theorem own_frm {F : List (Option Nat)} {w w' : World} {base n : Nat} {e : TypeId} {sz : Nat} {v : Value} {xs : List Value} (h : w.ownsRow base e sz v n xs) (hf : Frm F w w') (hF : ∀ b, some b ∈ F → b < base) : w'.ownsRow base e sz v n xs :=
 ⟨h.1, h.2.imp id fun ⟨g, cap, cur, h1, h2, h3, h4⟩ => ⟨g, cap, cur, h1, h2, (hf.block g (Array.getElem?_eq_some_iff.1 h3).1 (fun hm => by have := hF g hm; omega)).trans h3, h4⟩⟩
theorem World.ownsRow_up {w w' : World} {base n : Nat} {e : TypeId} {sz : Nat} {v : Value} {xs : List Value} (h : w.ownsRow base e sz v n xs) (hb : Below w.heap.size w w') : w'.ownsRow base e sz v n xs :=
 ⟨h.1, h.2.imp id fun ⟨g, cap, cur, h1, h2, h3, h4⟩ => ⟨g, cap, cur, h1, h2, (hb.block g (Array.getElem?_eq_some_iff.1 h3).1).trans h3, h4⟩⟩
end Go.Proofs.YtccakklnbhcbdaaGreatDoor
set_option linter.unusedVariables false
namespace Go.Proofs.YtccakklnbhcbdaaGreatDoor
open Go.ChangeShapes Go.WideShapes Go.ChangeAt Go.RowKit
def encK (k : Nat) (l : List Int) : List Value := (List.range k).map fun c => .int .i64 (l.getD c 0)
theorem encK_len (k : Nat) (l : List Int) : (encK k l).length = k := by simp [encK]
def encZ (n : Int) : List Value := [.int .i64 n]
def encR (x : (List UInt8 × List Int) × Value) : List Value := .string ⟨x.1.1.toArray⟩ :: encK 3 x.1.2 ++ [x.2]
def encU (x : List UInt8 × List Int) : List Value := .string ⟨x.1.toArray⟩ :: encK 9 x.2
def encD (x : (List UInt8 × List Int × List (List Int)) × Value) : List Value := .string ⟨x.1.1.toArray⟩ :: encK 6 x.1.2.1 ++ [x.2]
theorem encR_len (x : (List UInt8 × List Int) × Value) : (encR x).length = 5 := by simp [encR, encK_len]
theorem encU_len (x : List UInt8 × List Int) : (encU x).length = 10 := by simp [encU, encK_len]
theorem encD_len (x : (List UInt8 × List Int × List (List Int)) × Value) : (encD x).length = 8 := by simp [encD, encK_len]
structure PV where
 vt : Value
 vb : Value
 vh : Value
 vr : Value
 vn : Value
 vl : Value
 vd : Value
 db : List Value
 ds : List Value
def rdC (s : Rd) (p : PV) : Array Value :=
 ([p.vt, .int .i64 (s.i : Int), .string ⟨s.d.name.toArray⟩, p.vb, p.vh] ++ encK 3 s.d.mem ++ [p.vr, p.vn, p.vl, p.vd] ++ encK 9 s.d.rule ++ [Value.bool s.ruled]).toArray
def PV.fp (p : PV) : List (Option Nat) := [p.vb.ownBlock, p.vh.ownBlock, p.vr.ownBlock, p.vn.ownBlock, p.vl.ownBlock, p.vd.ownBlock] ++ p.db.map Value.ownBlock ++ p.ds.map Value.ownBlock
structure RdV (w : World) (d : Det) (p : PV) : Prop where
 boxes : Row w 60 6 (encK 6) p.vb d.boxes
 holes : Row w 60 6 (encK 6) p.vh d.holes
 bars : Row w 56 5 encR p.vr (d.bars.zip p.db)
 runs : Row w 81 10 encU p.vn d.runs
 laps : Row w 84 2 (encK 2) p.vl d.laps
 dems : Row w 63 8 encD p.vd (d.dems.zip p.ds)
 nb : p.db.length = d.bars.length
 ns : p.ds.length = d.dems.length
 dims : ∀ (k : Nat) (h1 : k < d.bars.length) (h2 : k < p.db.length), Row w 3 1 encZ p.db[k] (d.bars[k].2.drop 3)
 steps : ∀ (k : Nat) (h1 : k < d.dems.length) (h2 : k < p.ds.length), Row w 86 2 (encK 2) p.ds[k] d.dems[k].2.2
 sep : p.fp.Pairwise Dj
structure RdW (w : World) (R : Nat) (ts : List Tk) (s : Rd) (p : PV) : Prop where
 tok : TokR w R 139 (rdC s p) ts s.i
 vals : RdV w s.d p
 young : ∀ b, some b ∈ p.fp → R < b
section
variable {w w' : World} {d : Det} {p : PV}
theorem RdV.lt (h : RdV w d p) {b : Nat} (hb : some b ∈ p.fp) : b < w.heap.size := by
 simp only [PV.fp, List.mem_append, List.mem_cons, List.not_mem_nil, or_false, List.mem_map] at hb
 rcases hb with ((h1 | h1 | h1 | h1 | h1 | h1) | ⟨v, hv, h1⟩) | ⟨v, hv, h1⟩
 ·exact h.boxes.lt h1.symm
 ·exact h.holes.lt h1.symm
 ·exact h.bars.lt h1.symm
 ·exact h.runs.lt h1.symm
 ·exact h.laps.lt h1.symm
 ·exact h.dems.lt h1.symm
 ·obtain ⟨k, hk, rfl⟩ := List.getElem_of_mem hv
  exact (h.dims k (by rw [← h.nb]; exact hk) hk).lt h1
 ·obtain ⟨k, hk, rfl⟩ := List.getElem_of_mem hv
  exact (h.steps k (by rw [← h.ns]; exact hk) hk).lt h1
theorem RdV.keep (h : RdV w d p) (hb : ∀ b, some b ∈ p.fp → w'.heap[b]? = w.heap[b]?) : RdV w' d p where
 boxes := h.boxes.keep fun b e => hb b (by simp [PV.fp, e])
 holes := h.holes.keep fun b e => hb b (by simp [PV.fp, e])
 bars := h.bars.keep fun b e => hb b (by simp [PV.fp, e])
 runs := h.runs.keep fun b e => hb b (by simp [PV.fp, e])
 laps := h.laps.keep fun b e => hb b (by simp [PV.fp, e])
 dems := h.dems.keep fun b e => hb b (by simp [PV.fp, e])
 nb := h.nb
 ns := h.ns
 dims := fun k h1 h2 => (h.dims k h1 h2).keep fun b e => hb b (by
  simp only [PV.fp, List.mem_append, List.mem_map]
  exact .inl (.inr ⟨_, List.getElem_mem h2, e⟩))
 steps := fun k h1 h2 => (h.steps k h1 h2).keep fun b e => hb b (by
  simp only [PV.fp, List.mem_append, List.mem_map]
  exact .inr ⟨_, List.getElem_mem h2, e⟩)
 sep := h.sep
end
theorem rdC_at (s : Rd) (p : PV) (j : Nat) : (rdC s p).setIfInBounds 1 (.int .i64 ((j : Nat) : Int)) = rdC { s with i := j } p := by
 simp [rdC]
theorem RdW.adv {w w' : World} {R : Nat} {ts : List Tk} {s : Rd} {p : PV} {j : Nat} (h : RdW w R ts s p) (k : Adv ts R 139 (rdC s p) w j w') : RdW w' R ts { s with i := j } p where
 tok := rdC_at s p j ▸ k.1
 vals := h.vals.keep fun b hb => k.2.block b (h.vals.lt hb) fun x hx => by
  simp only [List.mem_singleton] at hx
  subst hx
  have := h.young b hb
  dsimp only
  omega
 young := h.young
theorem RdW.bel {w w' : World} {R : Nat} {ts : List Tk} {s : Rd} {p : PV} (h : RdW w R ts s p) (hb : Below w.heap.size w w') : RdW w' R ts s p where
 tok := h.tok.bel hb
 vals := h.vals.keep fun b k => hb.block b (h.vals.lt k)
 young := h.young
end Go.Proofs.YtccakklnbhcbdaaGreatDoor
