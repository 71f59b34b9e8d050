import Derived.Test.YtccakklnbhcbdaaGreatDoorFQl
import Derived.Test.YtccakklnbhcbdaaGreatDoorFQe
import Derived.Shelf.Strings.Builder1
import Derived.Lib.ItoaLen
import Derived.Shelf.Strings.BuilderK
import Derived.Lib.BufferKept
set_option linter.unusedVariables false
set_option linter.unusedSimpArgs false
namespace Go.Proofs.YtccakklnbhcbdaaGreatDoor
open Go.ChangeShapes Go.WideShapes Go.ChangeAt Go.RowKit Go.Shelf Go.Proofs
def Tryz.lw_ren : Go.Shelf.Ren := ⟨fun | 166 => 72 | 240 => 107 | 276 => 127 | n => n, fun | 70 => 71 | 72 => 74 | 37 => 72 | 164 => 166 | 75 => 114 | 80 => 88 | n => n, fun | n => n⟩
theorem Tryz.lw : Go.Proofs.Lays.n166 Tryz.prog Tryz.lw_ren := {
 mixed := by kernel_rfl
 f166 := Tryz.func72.trans (congrArg some (by kernel_rfl))
 f240 := Tryz.func107.trans (congrArg some (by kernel_rfl))
 f276 := Tryz.func127.trans (congrArg some (by kernel_rfl))
 t0 := Tryz.underlying0
 a0 := Tryz.isAgg0
 z0 := Tryz.sizeOf0
 v0 := Tryz.zeroValue0
 t3 := Tryz.underlying3
 a3 := Tryz.isAgg3
 z3 := Tryz.sizeOf3
 v3 := Tryz.zeroValue3
 t4 := Tryz.underlying4
 a4 := Tryz.isAgg4
 z4 := Tryz.sizeOf4
 v4 := Tryz.zeroValue4
 t9 := Tryz.underlying9
 a9 := Tryz.isAgg9
 z9 := Tryz.sizeOf9
 v9 := Tryz.zeroValue9
 t20 := Tryz.underlying20
 a20 := Tryz.isAgg20
 z20 := Tryz.sizeOf20
 v20 := Tryz.zeroValue20
 t37 := Tryz.underlying72
 a37 := Tryz.isAgg72
 z37 := Tryz.sizeOf72
 v37 := Tryz.zeroValue72
 t70 := Tryz.underlying71
 a70 := Tryz.isAgg71
 z70 := Tryz.sizeOf71
 v70 := Tryz.zeroValue71
 t72 := Tryz.underlying74
 a72 := Tryz.isAgg74
 z72 := Tryz.sizeOf74
 v72 := Tryz.zeroValue74
 t75 := Tryz.underlying114
 a75 := Tryz.isAgg114
 z75 := Tryz.sizeOf114
 v75 := Tryz.zeroValue114
 t164 := Tryz.underlying166
 a164 := Tryz.isAgg166
 z164 := Tryz.sizeOf166
 v164 := Tryz.zeroValue166 }
theorem Tryz.lw_extra : Builder.Extra Tryz.prog Tryz.lw_ren where
 sizeBuilder := by kernel_rfl
 liesBuilder := by kernel_rfl
 t5 := Tryz.underlying5
 a5 := Tryz.isAgg5
 z5 := Tryz.sizeOf5
 v5 := Tryz.zeroValue5
 infoByte := by kernel_rfl
 cellsByte := by kernel_rfl
 sizeByte := by kernel_rfl
 neB5 := by decide
end Go.Proofs.YtccakklnbhcbdaaGreatDoor
set_option linter.unusedVariables false
set_option linter.unusedSimpArgs false
namespace Go.Proofs.YtccakklnbhcbdaaGreatDoor
open Go.ChangeShapes Go.WideShapes Go.ChangeAt Go.RowKit
def IsJ (l : List Int) (v : Value) (w : World) : Prop := ∃ g c cs, v = .slice (some ⟨g, 0, none⟩) l.length c ∧ l.length ≤ c ∧ c ≤ 9223372036854775807 ∧ At w g 3 cs ∧ ∀ (k : Nat) (hk : k < l.length), cs[k]? = some (.int .i64 l[k])
theorem isJ_new {w : World} {g : Nat} {l : List Int} (h : At w g 3 (l.map (.int .i64 ·)).toArray) (hl : l.length ≤ 9223372036854775807) : IsJ l (.slice (some ⟨g, 0, none⟩) l.length l.length) w :=
 ⟨g, _, _, rfl, Nat.le_refl _, hl, h, fun k hk => by simp [hk]⟩
theorem IsJ.up {l : List Int} {v : Value} {w w' : World} (h : IsJ l v w) (hb : Below w.heap.size w w') : IsJ l v w' := by
 obtain ⟨g, c, cs, h1, h2, h3, h4, h5⟩ := h
 exact ⟨g, c, cs, h1, h2, h3, h4.bel hb, h5⟩
theorem bldAt_bel {T e : TypeId} {B b : Nat} {p : Value} {bs : List Value} {W W' : World} (h : Lib.BuilderAtF T e B b p bs W) (hb : Below W.heap.size W W') : Lib.BuilderAtF T e B b p bs W' := by
 obtain ⟨h1, v, h2, h3, h4⟩ := h
 exact ⟨h1, v, (hb.block b (Array.getElem?_eq_some_iff.1 h2).1).trans h2, ⟨h3.1, h3.2.imp id fun ⟨g, cap, cur, fz, e1, e2, e3, e4⟩ => ⟨g, cap, cur, fz, e1, e2, (hb.block g (Array.getElem?_eq_some_iff.1 e3).1).trans e3, e4⟩⟩, h4⟩
theorem bldF_bel {T e : TypeId} {B b : Nat} {bs : List Value} {W W' : World} (h : Lib.IsBuilderF T e B b bs W) (hb : Below W.heap.size W W') : Lib.IsBuilderF T e B b bs W' := h.imp (bldAt_bel · hb) (bldAt_bel · hb)
theorem EnvR.blw {B R : Nat} {w w' : World} (h : EnvR R w) (hb : Below B w w') (hR : R ≤ B) : EnvR R w' := by
 obtain ⟨w0, h1, h2, h3⟩ := h
 exact ⟨w0, h1, h2.trans (hb.mono (by omega)), h3⟩
structure Bld (w : World) (b : Nat) (l : List UInt8) (w' : World) : Prop where
 bld : Lib.IsBuilderF 74 5 b b (Lib.byteCells l) w'
 fr : Below b w w'
 oth : Lib.OthersKept 5 (some b) w w'
section
variable {w w1 w' : World} {b : Nat} {l : List UInt8}
theorem Bld.lt (h : Bld w b l w') : b < w'.heap.size := by
 rcases h.bld with k | k <;> exact k.lt
theorem Bld.bel (h : Bld w b l w') (hb : Below w'.heap.size w' w1) : Bld w b l w1 := ⟨bldF_bel h.bld hb, h.fr.trans (hb.mono (Nat.le_of_lt h.lt)), h.oth.below hb⟩
theorem Bld.trans {l' : List UInt8} (h : Bld w b l w') (k : Bld w' b l' w1) : Bld w b l' w1 := ⟨k.bld, h.fr.trans k.fr, h.oth.trans k.oth⟩
theorem Bld.of (h : Lib.IsBuilderF 74 5 b b (Lib.byteCells l) w) : Bld w b l w := ⟨h, Below.refl _ _, Lib.OthersKept.refl _ _ _⟩
theorem Bld.at {g : Nat} {t : TypeId} {cs : Array Value} (h : Bld w b l w') (k : At w g t cs) (ht : t ≠ 5) (hg : g ≠ b) : At w' g t cs :=
 h.oth g _ k (fun e => hg (Option.some.inj e)) fun c fz e => by injection e with _ e; exact ht e
theorem Bld.ne {g : Nat} {t : TypeId} {cs : Array Value} (h : Bld w b l w') (k : At w' g t cs) (ht : t ≠ 74) : g ≠ b := fun e => by
 subst e
 rcases h.bld with ⟨_, v, q, _⟩ | ⟨_, v, q, _⟩ <;> (have := k.symm.trans q; injection this with this; injection this with _ this; exact ht this)
theorem IsJ.bld {n : List Int} {v : Value} (k : IsJ n v w) (h : Bld w b l w') (h0 : Bld w b l w) : IsJ n v w' := by
 obtain ⟨g, c, cs, h1, h2, h3, h4, h5⟩ := k
 exact ⟨g, c, cs, h1, h2, h3, h.at h4 (by decide) (h0.ne h4 (by decide)), h5⟩
end
theorem Bld.start (w : World) : Bld (w.alloc (.cells #[.pointer none, .slice none 0 0] 74)) w.heap.size [] (w.alloc (.cells #[.pointer none, .slice none 0 0] 74)) :=
 Bld.of (.inl ⟨Nat.le_refl _, .slice none 0 0, At.new _ _ _, World.ownsRowF_nil _ _ _ _, by simp [Value.ownBlock]⟩)
theorem put_any (w : World) (b : Nat) (l : List UInt8) (s : ByteArray) (h : Lib.IsBuilderF 74 5 b b (Lib.byteCells l) w) (hl : l.length ≤ 100000000000) (hs : s.size ≤ 100000000000) :
  Calls Tryz.prog 72 #[.pointer (some ⟨b, 0, none⟩), .string s] w fun e w' => e = .returned (.tuple #[.int .i64 s.size, .nilIface]) ∧ Bld w b (l ++ by_ s) w' := by
 have hb : b ≤ w.heap.size := Nat.le_of_lt (by rcases h with k | k <;> exact k.lt)
 refine (Any.Builder_WriteString_k Tryz.lw Tryz.lw_extra b b _ s w h (by rw [Lib.byteCells_length]; omega) hb).mono ?_
 rintro e w' ⟨h1, h2, h3, h4⟩
 refine ⟨h1, .inr ?_, h3, h4⟩
 rw [Lib.byteCells_append]
 exact h2
theorem itoa_len {n : Int} (h : -9223372036854775808 ≤ n ∧ n ≤ 9223372036854775807) : (Lib.itoa n).length ≤ 21 := by
 by_cases hn : n < 0
 ·rw [show n = -((n.natAbs : Nat) : Int) by omega, Lib.itoa_neg _ (by omega)]
  have := dec_len19 19 n.natAbs (by omega)
  simp
  omega
 ·have e : Lib.itoa n = Lib.decDigits n.natAbs := by
   obtain ⟨m, rfl⟩ : ∃ m : Nat, n = (m : Int) := ⟨n.natAbs, by omega⟩
   rfl
  rw [e]
  have := dec_len19 19 n.natAbs (by omega)
  omega
def lnN (l : List Int) : List UInt8 := l.flatMap fun n => 32 :: Lib.itoa n
theorem lnN_len : ∀ (l : List Int), (∀ n ∈ l, -9223372036854775808 ≤ n ∧ n ≤ 9223372036854775807) → (lnN l).length ≤ 22 * l.length
 | [], _ => by simp [lnN]
 | n :: l, h => by
  have := lnN_len l fun m hm => h m (by simp [hm])
  have := itoa_len (h n (by simp))
  unfold lnN at *
  rw [List.flatMap_cons, List.length_append, List.length_cons, List.length_cons]
  omega
set_option maxRecDepth 100000 in
set_option maxHeartbeats 1000000 in
theorem line_any (w : World) (b : Nat) (l : List UInt8) (ws : ByteArray) (ns : List Int) (v : Value) (h : Lib.IsBuilderF 74 5 b b (Lib.byteCells l) w) (hv : IsJ ns v w) (he : EnvR b w) (hl : l.length ≤ 10000000000) (hws : ws.size ≤ 1000000) (hns : ns.length ≤ 1000) (hr : ∀ n ∈ ns, -9223372036854775808 ≤ n ∧ n ≤ 9223372036854775807) :
  Calls Tryz.prog 32 #[.pointer (some ⟨b, 0, none⟩), .string ws, v] w fun e w' => e = .returned (.tuple #[]) ∧ Bld w b (l ++ lnB (by_ ws) ns) w' := by
 have H1 := Lib.hid (put_any w b l ws h (by omega) (by omega))
 have h0 := Bld.of h
 have hJ : Hid (∀ w1 l1, Bld w b l1 w1 → IsJ ns v w1) := Lib.hid fun w1 l1 h1 => by
  obtain ⟨g, c, cs, e1, e2, e3, e4, e5⟩ := hv
  exact ⟨g, c, cs, e1, e2, e3, h1.at e4 (by decide) (h0.ne e4 (by decide)), e5⟩
 have hE : Hid (∀ w1 l1, Bld w b l1 w1 → EnvR b w1) := Lib.hid fun w1 l1 h1 => he.blw h1.fr (Nat.le_refl _)
 obtain ⟨g, c, cs, hvv, hc1, hc2, -, -⟩ := hv
 obtain ⟨n, hn⟩ : ∃ n, ns.length = n := ⟨_, rfl⟩
 rw [hn] at hvv hc1 hns
 have hfin : Hid (∀ w1, Bld w b (l ++ by_ ws ++ lnN ns ++ [10]) w1 → Bld w b (l ++ lnB (by_ ws) ns) w1) := Lib.hid fun w1 q => by
  have : l ++ lnB (by_ ws) ns = l ++ by_ ws ++ lnN ns ++ [10] := by unfold lnB lnN; simp
  rwa [this]
 have hLb : Hid (∀ k, k ≤ n → (l ++ by_ ws ++ lnN (ns.take k)).length ≤ 20000000000) := Lib.hid fun k hk => by
  have h1 := lnN_len (ns.take k) fun m hm => hr m (List.mem_of_mem_take hm)
  have h2 : (by_ ws).length = ws.size := rfl
  have h3 : (ns.take k).length ≤ k := List.length_take_le _ _
  rw [List.length_append, List.length_append]
  omega
 replace hn := Lib.hid hn
 replace hr := Lib.hid hr
 have hJv : Hid (v = .slice (some ⟨g, 0, none⟩) n c) := Lib.hid hvv
 subst hvv
 clear h he hl hws h0
 go_enter Tryz.func32, Tryz.ntmps32
 go_wp2_with fail
 refine H1.out.mono ?_
 rintro e w1 ⟨rfl, hb1⟩
 have hb0 : Hid (Bld w b (l ++ by_ ws ++ lnN (ns.take 0)) w1) := Lib.hid (by
  rw [List.take_zero, show lnN [] = [] from rfl, List.append_nil]
  exact hb1)
 clear H1 hb1
 go_wp2_with fail
 go_loopg [13] n (fun g i wr => ∃ k : Nat, k ≤ n ∧ i = .int .i64 (k : Int) ∧ Hid (g = n - k) ∧ Hid (Bld w b (l ++ by_ ws ++ lnN (ns.take k)) wr))
 case atStart => exact ⟨0, Nat.zero_le _, rfl, Lib.hid rfl, hb0⟩
 case round =>
  clear hb0
  obtain ⟨k, hk, rfl, hg, hb⟩ := hrel
  by_cases hlt : k < n
  ·have hkl : k < ns.length := by rw [hn.out]; exact hlt
   obtain ⟨g2, c2, cs, e1, e2, e3, e4, e5⟩ := hJ.out _ _ hb.out
   obtain rfl : g = g2 := by injection e1 with e1; injection e1 with e1; injection e1
   have e6 := e5 k hkl
   have hrk := hr.out _ (List.getElem_mem hkl)
   obtain ⟨x, hx⟩ : ∃ x, ns[k] = x := ⟨_, rfl⟩
   rw [hx] at e6 hrk
   have q0 : wr.cell? ⟨g, k, none⟩ = some (.int .i64 x) := (e4.c k).trans e6
   have HI := Lib.hid (itoa_tab x hrk wr (hE.out _ _ hb.out).env.tab)
   have hil : (⟨(Lib.itoa x).toArray⟩ : ByteArray).size ≤ 21 := by rw [mk_size]; exact itoa_len hrk
   have hbx : by_ (⟨(Lib.itoa x).toArray⟩ : ByteArray) = Lib.itoa x := mk_by _
   generalize (⟨(Lib.itoa x).toArray⟩ : ByteArray) = I at *
   have hnx : Hid (l ++ by_ ws ++ lnN (ns.take (k + 1)) = l ++ by_ ws ++ lnN (ns.take k) ++ (32 :: by_ I)) := Lib.hid (by
    rw [List.take_succ_eq_append_getElem hkl, hx, hbx]
    unfold lnN
    simp)
   have hlk := hLb.out k hk
   have hsb : (⟨#[32]⟩ : ByteArray).size = 1 := rfl
   have hcat : (⟨#[32]⟩ ++ I : ByteArray).size ≤ 22 := by rw [ByteArray.size_append]; omega
   have hby : by_ (⟨#[32]⟩ ++ I : ByteArray) = 32 :: by_ I := by rw [by_append]; rfl
   replace hx := Lib.hid hx
   replace hbx := Lib.hid hbx
   have HP : Hid (∀ w2, Below wr.heap.size wr w2 → Calls Tryz.prog 72 #[.pointer (some ⟨b, 0, none⟩), .string (⟨#[32]⟩ ++ I)] w2 fun e w' => e = .returned (.tuple #[.int .i64 (⟨#[32]⟩ ++ I : ByteArray).size, .nilIface]) ∧ Bld w b (l ++ by_ ws ++ lnN (ns.take (k + 1))) w') := Lib.hid fun w2 hbl => by
    have hb2 := hb.out.bel hbl
    refine (put_any w2 b _ _ hb2.bld (by omega) (by omega)).mono fun e w' ⟨q1, q2⟩ => ⟨q1, ?_⟩
    rw [hnx.out, ← hby]
    exact hb2.trans q2
   replace hnx := Lib.hid hnx
   replace hby := Lib.hid hby
   clear hlk e1 e4 e5 e6 hrk
   go_wp2_with fail
   refine HI.out.mono ?_
   rintro e w2 ⟨rfl, hbl⟩
   replace HP := Lib.hid (HP.out w2 hbl)
   clear hb hbl HI q0
   go_wp2_with fail
   refine HP.out.mono ?_
   rintro e w3 ⟨rfl, hb3⟩
   replace hb3 := Lib.hid hb3
   clear HP
   go_wp2_with fail
   go_roundg (n - (k + 1))
   case measure => have := hg.out; omega
   case rel => exact ⟨k + 1, by omega, by go_num, Lib.hid rfl, hb3⟩
  ·have hkn : k = n := by omega
   have hb2 : Bld w b (l ++ by_ ws ++ lnN ns) wr := by
    have := hb.out
    rwa [List.take_of_length_le (by have := hn.out; omega)] at this
   have hlk : (l ++ by_ ws ++ lnN ns).length ≤ 20000000000 := by
    have := hLb.out n (Nat.le_refl _)
    rwa [List.take_of_length_le (by have := hn.out; omega)] at this
   have HP := Lib.hid (put_any wr b _ ⟨#[10]⟩ hb2.bld (by omega) (by decide))
   replace hb2 := Lib.hid hb2
   clear hb hlk
   go_wp2_with fail
   refine HP.out.mono ?_
   rintro e w3 ⟨rfl, hb3⟩
   have hf := hfin.out _ (hb2.out.trans hb3)
   clear hb3 HP
   go_wp2_with fail
   go_end0
   exact ⟨rfl, hf⟩
set_option maxRecDepth 100000 in
set_option maxHeartbeats 1000000 in
theorem coordsJ (a b c d f g : Int) (w : World) : Calls Tryz.prog 33 #[.agg #[.int .i64 a, .int .i64 b, .int .i64 c, .int .i64 d, .int .i64 f, .int .i64 g]] w fun e w' => (∃ v, e = .returned v ∧ IsJ [a, b, c, d, f, g] v w') ∧ Below w.heap.size w w' := by
 go_enter Tryz.func33, Tryz.ntmps33
 go_wp2_with fail
 generalize hWW : World.alloc (World.alloc w _) _ = WW
 have kz : At WW (w.heap.size + 1) 3 #[.int .i64 a, .int .i64 b, .int .i64 c, .int .i64 d, .int .i64 f, .int .i64 g] := by rw [← hWW]; repeat (first | (with_reducible apply At.new'; (focus (simp; done))) | with_reducible apply At.al | with_reducible apply At.drw | with_reducible apply At.dr)
 have HB : Below w.heap.size w WW := by rw [← hWW]; repeat (first | with_reducible assumption | with_reducible exact Below.refl _ _ | with_reducible refine below_al ?_ _ | with_reducible refine below_drew ?_ | with_reducible refine below_drewN ?_ _ | with_reducible refine below_set ?_ (by dsimp only; omega) _)
 clear hWW
 go_ret
 exact ⟨⟨_, rfl, isJ_new (l := [a, b, c, d, f, g]) kz (by simp)⟩, HB⟩
set_option maxRecDepth 100000 in
set_option maxHeartbeats 1000000 in
theorem ruleJ (a b c d f g h i j : Int) (w : World) : Calls Tryz.prog 34 #[.agg #[.int .i64 a, .int .i64 b, .int .i64 c, .int .i64 d, .int .i64 f, .int .i64 g, .int .i64 h, .int .i64 i, .int .i64 j]] w fun e w' => (∃ v, e = .returned v ∧ IsJ [a, b, c, d, f, g, h, i, j] v w') ∧ Below w.heap.size w w' := by
 go_enter Tryz.func34, Tryz.ntmps34
 go_wp2_with fail
 generalize hWW : World.alloc (World.alloc w _) _ = WW
 have kz : At WW (w.heap.size + 1) 3 #[.int .i64 a, .int .i64 b, .int .i64 c, .int .i64 d, .int .i64 f, .int .i64 g, .int .i64 h, .int .i64 i, .int .i64 j] := by rw [← hWW]; repeat (first | (with_reducible apply At.new'; (focus (simp; done))) | with_reducible apply At.al | with_reducible apply At.drw | with_reducible apply At.dr)
 have HB : Below w.heap.size w WW := by rw [← hWW]; repeat (first | with_reducible assumption | with_reducible exact Below.refl _ _ | with_reducible refine below_al ?_ _ | with_reducible refine below_drew ?_ | with_reducible refine below_drewN ?_ _ | with_reducible refine below_set ?_ (by dsimp only; omega) _)
 clear hWW
 go_ret
 exact ⟨⟨_, rfl, isJ_new (l := [a, b, c, d, f, g, h, i, j]) kz (by simp)⟩, HB⟩
set_option maxRecDepth 100000 in
set_option maxHeartbeats 1000000 in
theorem runJ (a b c d f g h i j : Int) (s : ByteArray) (w : World) : Calls Tryz.prog 35 #[.agg #[.string s, .int .i64 a, .int .i64 b, .int .i64 c, .int .i64 d, .int .i64 f, .int .i64 g, .int .i64 h, .int .i64 i, .int .i64 j]] w fun e w' => (∃ v, e = .returned v ∧ IsJ [a, b, c, d, f, g, h, i, j] v w') ∧ Below w.heap.size w w' := by
 go_enter Tryz.func35, Tryz.ntmps35
 go_wp2_with fail
 generalize hWW : World.alloc (World.alloc w _) _ = WW
 have kz : At WW (w.heap.size + 1) 3 #[.int .i64 a, .int .i64 b, .int .i64 c, .int .i64 d, .int .i64 f, .int .i64 g, .int .i64 h, .int .i64 i, .int .i64 j] := by rw [← hWW]; repeat (first | (with_reducible apply At.new'; (focus (simp; done))) | with_reducible apply At.al | with_reducible apply At.drw | with_reducible apply At.dr)
 have HB : Below w.heap.size w WW := by rw [← hWW]; repeat (first | with_reducible assumption | with_reducible exact Below.refl _ _ | with_reducible refine below_al ?_ _ | with_reducible refine below_drew ?_ | with_reducible refine below_drewN ?_ _ | with_reducible refine below_set ?_ (by dsimp only; omega) _)
 clear hWW
 go_ret
 exact ⟨⟨_, rfl, isJ_new (l := [a, b, c, d, f, g, h, i, j]) kz (by simp)⟩, HB⟩
end Go.Proofs.YtccakklnbhcbdaaGreatDoor
