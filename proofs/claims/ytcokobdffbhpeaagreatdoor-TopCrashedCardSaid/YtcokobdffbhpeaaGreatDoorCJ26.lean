/- journal: the good records. -/
import Derived.Test.YtcokobdffbhpeaaGreatDoorCJ25
import Derived.Test.YtcokobdffbhpeaaGreatDoorCJ08
import Derived.Deep.RegionHeld3
set_option linter.unusedVariables false
namespace Go.Proofs.YtcokobdffbhpeaaGreatDoor
open Go.ChangeShapes Go.WideShapes Go.ChangeAt Go.RowKit
open Go.Lib (decDigits itoa itoa_nonneg)
theorem rec_eq_iff {p r : List UInt8} {x : Ent} {t m : Nat} (h : entO r = some (x, t, m)) : (r.take m = recE p x ↔ t = sumF (sumB p) (lineE x)) ∧ m ≤ r.length := by
  obtain ⟨rfl, ⟨u, rfl⟩, hw, _⟩ := entO_iff.1 h
  have e : (lineE x ++ (decDigits t ++ 10 :: u)).take ((lineE x ++ decDigits t).length + 1) = lineE x ++ (decDigits t ++ [10]) := by
    rw [show lineE x ++ (decDigits t ++ 10 :: u) = (lineE x ++ (decDigits t ++ [10])) ++ u by simp, List.take_left' (by simp; omega)]
  refine ⟨?_, by simp; omega⟩
  rw [e]
  unfold recE
  constructor
  · intro h
    have h2 := List.append_cancel_left h
    have h3 := List.append_cancel_right h2
    exact dec_inj h3
  · rintro rfl
    rfl
theorem goodF_stop {f : Nat} {b : List UInt8} {at_ : Nat} {l : List Ent} (h : at_ < b.length) {e : Int} (hn : nextJ (b.take at_) l (b.drop at_) = .error e) : goodF (f + 1) b at_ l = (l, at_, e) := by
  unfold goodF
  rw [if_pos h]
  simp only [hn]
theorem goodF_go {f : Nat} {b : List UInt8} {at_ : Nat} {l : List Ent} (h : at_ < b.length) {x : Ent} {n : Nat} (hn : nextJ (b.take at_) l (b.drop at_) = .ok (x, n)) : goodF (f + 1) b at_ l = goodF f b (at_ + n) (l ++ [x]) := by
  conv => lhs; unfold goodF
  rw [if_pos h]
  simp only [hn]
theorem goodF_end {f : Nat} {b : List UInt8} {at_ : Nat} {l : List Ent} (h : ¬ at_ < b.length) : goodF f b at_ l = (l, at_, 0) := by
  cases f with
  | zero => rfl
  | succ f => unfold goodF; rw [if_neg h]
theorem nextJ_ent {p r : List UInt8} {l : List Ent} {x : Ent} {n : Nat} (h : nextJ p l r = .ok (x, n)) : ∃ t, entO r = some (x, t, n) := by
  unfold nextJ at h
  split at h
  · cases h
  · rename_i y s m he
    split at h
    · cases h
    · split at h
      · cases h
      · injection h with h
        simp only [Prod.mk.injEq] at h
        obtain ⟨rfl, rfl⟩ := h
        exact ⟨s, he⟩
theorem WordsOk.bd {x : Ent} (h : WordsOk x) : ((-9223372036854775808 ≤ x.day ∧ x.day ≤ 9223372036854775807) ∧ (-9223372036854775808 ≤ x.kind ∧ x.kind ≤ 9223372036854775807)) ∧ x.name.size ≤ 20 := by
  have h1 := dec_lt (n := x.day.toNat) (by rw [← h.dayE]; exact h.dl)
  have h2 := dec_lt (n := x.kind.toNat) (by rw [← h.kindE]; exact h.kl)
  have h3 := h.d0
  have h4 := h.k0
  have h5 := h.nm
  unfold nameB at h5
  simp only [Bool.and_eq_true, decide_eq_true_eq] at h5
  have h6 : x.name.size ≤ 20 := h5.1.1.2
  omega
theorem ownsRow_below {w w' : World} {B n : Nat} {e : TypeId} {sz : Nat} {v : Value} {xs : List Value} (h : w.ownsRow B e sz v n xs) (hb : Below w.heap.size w w') : w'.ownsRow B e sz v n xs := World.ownsRow_up h hb
theorem row_push {w : World} {base : Nat} {a : Option Addr} {c : Nat} {l : List Ent} {xd xk : Int} {xn : ByteArray} (h : w.ownsRow base 39 3 (.slice a (l.length + 1) c) (l.length + 1) (l.flatMap encE ++ [.int .i64 xd, .int .i64 xk, .string xn])) : w.ownsRow base 39 3 (.slice a (l.length + 1) c) (l ++ [(⟨xd, xk, xn⟩ : Ent)]).length ((l ++ [(⟨xd, xk, xn⟩ : Ent)]).flatMap encE) := by
  rw [show (l ++ [(⟨xd, xk, xn⟩ : Ent)]).length = l.length + 1 by simp, List.flatMap_append, List.flatMap_singleton]
  exact h
theorem cloneE_own {w : World} {base : Nat} {v : Value} {l : List Ent} (h : w.ownsRow base 39 3 v l.length (l.flatMap encE)) (hl : l.length ≤ 100000) :
    Calls Tryz.prog 27 #[v] w fun e w' => (∃ cy cc, e = .returned (.slice cy l.length cc) ∧ Hid (w'.ownsRow w.heap.size 39 3 (.slice cy l.length cc) l.length (l.flatMap encE))) ∧ Below w.heap.size w w' := by
  have h2 : Row w 39 3 encE v l := ⟨h.1, h.2.imp id fun ⟨g, cap, cur, h1, _, h3⟩ => ⟨g, cap, cur, h1, Nat.zero_le _, h3⟩⟩
  obtain ⟨ao, cap, rfl, h4, h5, h6, h7⟩ := h2.view encE_len
  refine (cloneE_any l ao cap hl (h7.elim (fun q => .inl ⟨q.1, q.2.1⟩) fun ⟨g, q, _⟩ => .inr ⟨g, 0, q⟩) _ w h6).mono ?_
  rintro e w' ⟨⟨y, rfl, hy⟩, hb⟩
  obtain ⟨cy, cc, rfl⟩ := own_slice hy.out
  exact ⟨⟨cy, cc, rfl, hy⟩, hb⟩
theorem jvalid_own {w : World} {base : Nat} {v : Value} {l : List Ent} (h : w.ownsRow base 39 3 v l.length (l.flatMap encE)) (hl : l.length ≤ 1000001) (hs : ∀ x ∈ l, x.name.size ≤ 10000) :
    Calls Tryz.prog 23 #[v] w fun e w' => e = .returned (.bool (logV l)) ∧ Below w.heap.size w w' := by
  have h2 : Row w 39 3 encE v l := ⟨h.1, h.2.imp id fun ⟨g, cap, cur, h1, _, h3⟩ => ⟨g, cap, cur, h1, Nat.zero_le _, h3⟩⟩
  obtain ⟨ao, cap, rfl, h4, h5, h6, h7⟩ := h2.view encE_len
  exact jvalid_any l ao cap h4 h5 (Lib.hid fun x hx => by have := hs x hx; omega) w (Lib.hid h6)
set_option maxRecDepth 100000 in
set_option maxHeartbeats 4000000 in
theorem good_v (b : List UInt8) (v : Value) (hbl : b.length ≤ 1000000) (w : World) (he : Env w) (hv : IsB b v w) :
    Calls Tryz.prog 25 #[v] w fun e w' => (∃ y, e = .returned (.tuple #[y, .int .i64 ((goodJ b).2.1 : Nat)]) ∧ Hid (w'.ownsRow w.heap.size 39 3 y (goodJ b).1.length ((goodJ b).1.flatMap encE))) ∧ Below w.heap.size w w' := by
  obtain ⟨i0, hi, hz0, hz1, hz2⟩ := info_parts infoEnt
  obtain ⟨a, n, c, rfl, hn0, hnc, hcm⟩ := hv.shape
  have he0 := Lib.hid he
  have hv0 := Lib.hid hv
  have hbl0 := Lib.hid hbl
  replace hn0 := Lib.hid hn0
  obtain ⟨G, hG⟩ : ∃ G, goodJ b = G := ⟨_, rfl⟩
  rw [hG]
  replace hG := Lib.hid hG
  have hn6 : n ≤ 1000000 := by rw [hn0.out]; exact hbl
  clear he hv hbl
  go_enter Tryz.func25, Tryz.ntmps25
  go_wp2_with fail
  go_loopg [5, 4] n (fun g i y wr => ∃ (at_ : Nat) (l : List Ent) (v0 : Value) (fu : Nat), v0 = y ∧ at_ ≤ n ∧ i = .int .i64 (at_ : Int) ∧ Hid (g = n - at_) ∧ Hid (goodF fu b at_ l = G ∧ n ≤ fu + at_ ∧ l.length ≤ 1000 ∧ ∀ x ∈ l, x.name.size ≤ 10000) ∧ Below w.heap.size w wr ∧ Hid (wr.ownsRow w.heap.size 39 3 y l.length (l.flatMap encE)))
  case atStart => exact ⟨0, [], _, n, rfl, Nat.zero_le _, rfl, Lib.hid rfl, Lib.hid ⟨by rw [hn0.out]; exact hG.out, by omega, by simp, by simp⟩, Below.refl _ _, Lib.hid (World.ownsRow_nil _ _ _ _)⟩
  case round =>
    obtain ⟨at_, l, yv, fu, rfl, hat, rfl, hr, hg, HB, ho⟩ := hrel
    by_cases hlt : at_ < n
    rotate_left
    · have hE : Hid (G = (l, at_, 0)) := Lib.hid (by
        have h1 := hg.out.1
        rw [goodF_end (by have := hn0.out; omega)] at h1
        exact h1.symm)
      go_wp2_with fail
      exact bodyPost_ret (v := .tuple #[yv, .int .i64 (at_ : Int)]) (by simp [results, Tryz.results25, go_sem]) rfl ⟨⟨yv, by rw [hE.out], by rw [hE.out]; exact ho⟩, HB⟩
    have hbl' : Hid (at_ < b.length) := Lib.hid (by rw [← hn0.out]; exact hlt)
    obtain ⟨A1, hs1, hB1⟩ := (hv0.out.up HB).lo at_ hat
    have HE := Lib.hid (entry_v (b.drop at_) _ (by rw [List.length_drop]; have := hbl0.out; omega) wr (he0.out.bel HB) hB1)
    clear hB1
    go_wp2_with fail
    refine HE.out.mono ?_
    rintro e wr2 ⟨⟨xd, xk, xn, sv, sz, ok, rfl, q1, q2, q3⟩, hb2⟩
    replace ho := Lib.hid (World.ownsRow_up ho.out hb2)
    replace HB := below_then HB hb2
    clear hb2 HE hs1
    go_upto_region 5 with fail
    generalize hWW : World.alloc _ _ = W3
    have kx : At W3 wr2.heap.size 39 #[.int .i64 xd, .int .i64 xk, .string xn] := by rw [← hWW]; exact At.new' rfl
    have hbW : Below wr2.heap.size wr2 W3 := by rw [← hWW]; exact below_al (Below.refl _ _) _
    clear hWW
    have HB3 := below_then HB hbW
    replace ho := Lib.hid (World.ownsRow_up ho.out hbW)
    clear hbW HB
    have hstop : ∃ q : Bool, Hid (q = (match nextJ (b.take at_) l (b.drop at_) with | .ok _ => false | .error _ => true)) := ⟨_, Lib.hid rfl⟩
    obtain ⟨q, hq0⟩ := hstop
    go_cut [48] (fun u wc => u = .bool q ∧ Below W3.heap.size W3 wc)
    case first =>
      obtain ⟨x0, x1, x2⟩ := kx.three
      cases hent : entO (b.drop at_) with
      | none =>
        have hok := q2.out hent
        subst hok
        have hq : Hid (q = true) := Lib.hid (by rw [hq0.out]; unfold nextJ; rw [hent])
        clear hent q1 q2 hq0
        refine wp_region_noPanic ?_
        refine wp_region_held_drew (S := (fun W => Below W3.heap.size W3 W ∧ At W wr2.heap.size 39 #[.int .i64 xd, .int .i64 xk, .string xn] ∧ W.cell? ⟨wr2.heap.size, 0, none⟩ = some (.int .i64 xd) ∧ W.cell? ⟨wr2.heap.size, 1, none⟩ = some (.int .i64 xk) ∧ W.cell? ⟨wr2.heap.size, 2, none⟩ = some (.string xn))) (by kernel_rfl) ?_ (fun hHeld => ?_)
        · (try dsimp only); (first | ((try go_split_ands); refine ⟨?_, ?_, ?_, ?_, ?_⟩; (focus ((repeat (first | with_reducible assumption | with_reducible exact Below.refl _ _ | with_reducible refine below_al ?_ _ | with_reducible refine below_drew ?_ | with_reducible refine below_drewN ?_ _ | with_reducible refine below_then ?_ hb6)); done)); (focus ((repeat (first | with_reducible assumption | with_reducible apply At.drw | with_reducible refine At.al ?_ _ | with_reducible refine At.bel ?_ hb6)); done)); (focus (first | (with_reducible refine At.c0' (t := 39) (x := .int .i64 xd) (y := .int .i64 xk) (z := .string xn) ?_; (repeat (first | with_reducible assumption | with_reducible apply At.drw | with_reducible refine At.al ?_ _ | with_reducible refine At.bel ?_ hb6)); done) | (with_reducible refine At.c1' (t := 39) (x := .int .i64 xd) (y := .int .i64 xk) (z := .string xn) ?_; (repeat (first | with_reducible assumption | with_reducible apply At.drw | with_reducible refine At.al ?_ _ | with_reducible refine At.bel ?_ hb6)); done) | (with_reducible refine At.c2' (t := 39) (x := .int .i64 xd) (y := .int .i64 xk) (z := .string xn) ?_; (repeat (first | with_reducible assumption | with_reducible apply At.drw | with_reducible refine At.al ?_ _ | with_reducible refine At.bel ?_ hb6)); done) )); (focus (first | (with_reducible refine At.c0' (t := 39) (x := .int .i64 xd) (y := .int .i64 xk) (z := .string xn) ?_; (repeat (first | with_reducible assumption | with_reducible apply At.drw | with_reducible refine At.al ?_ _ | with_reducible refine At.bel ?_ hb6)); done) | (with_reducible refine At.c1' (t := 39) (x := .int .i64 xd) (y := .int .i64 xk) (z := .string xn) ?_; (repeat (first | with_reducible assumption | with_reducible apply At.drw | with_reducible refine At.al ?_ _ | with_reducible refine At.bel ?_ hb6)); done) | (with_reducible refine At.c2' (t := 39) (x := .int .i64 xd) (y := .int .i64 xk) (z := .string xn) ?_; (repeat (first | with_reducible assumption | with_reducible apply At.drw | with_reducible refine At.al ?_ _ | with_reducible refine At.bel ?_ hb6)); done) )); (focus (first | (with_reducible refine At.c0' (t := 39) (x := .int .i64 xd) (y := .int .i64 xk) (z := .string xn) ?_; (repeat (first | with_reducible assumption | with_reducible apply At.drw | with_reducible refine At.al ?_ _ | with_reducible refine At.bel ?_ hb6)); done) | (with_reducible refine At.c1' (t := 39) (x := .int .i64 xd) (y := .int .i64 xk) (z := .string xn) ?_; (repeat (first | with_reducible assumption | with_reducible apply At.drw | with_reducible refine At.al ?_ _ | with_reducible refine At.bel ?_ hb6)); done) | (with_reducible refine At.c2' (t := 39) (x := .int .i64 xd) (y := .int .i64 xk) (z := .string xn) ?_; (repeat (first | with_reducible assumption | with_reducible apply At.drw | with_reducible refine At.al ?_ _ | with_reducible refine At.bel ?_ hb6)); done) ))) | go_keep)
        refine wpAnyH_take (i := 0) (v := ?_) (by simp only [List.getElem?_toArray, List.getElem?_cons_zero]; rfl) (by kernel_rfl) (by kernel_rfl) (by kernel_rfl) (fun _ _ _ h => h) (Or.inl ⟨by rfl, ?_⟩) (by assumption) ?_
        rotate_left
        focus (intro w hSw; (try dsimp only at hSw); go_simp; first | done | with_reducible rfl)
        (try simp only [Act.put, List.setIfInBounds_toArray, List.set_cons_zero, List.set_cons_succ])
        refine wpAnyH_take (i := 1) (v := ?_) (by simp only [List.getElem?_toArray, List.getElem?_cons_succ, List.getElem?_cons_zero]; rfl) (by kernel_rfl) (by kernel_rfl) (by kernel_rfl) (fun _ _ _ h => h) (Or.inl ⟨by rfl, ?_⟩) (by assumption) ?_
        rotate_left
        focus (intro w hSw; (try dsimp only at hSw); go_simp; first | done | with_reducible rfl)
        (try simp only [Act.put, List.setIfInBounds_toArray, List.set_cons_zero, List.set_cons_succ])
        refine wpAnyH_take (i := 2) (v := ?_) (by simp only [List.getElem?_toArray, List.getElem?_cons_succ, List.getElem?_cons_zero]; rfl) (by kernel_rfl) (by kernel_rfl) (by kernel_rfl) (fun _ _ _ h => h) (Or.inl ⟨by rfl, ?_⟩) (by assumption) ?_
        rotate_left
        focus (intro w hSw; (try dsimp only at hSw); go_simp; first | done | with_reducible rfl)
        (try simp only [Act.put, List.setIfInBounds_toArray, List.set_cons_zero, List.set_cons_succ])
        refine wpAnyH_take (i := 3) (v := undef) (by simp only [List.getElem?_toArray, List.getElem?_cons_succ, List.getElem?_cons_zero]; rfl) (by kernel_rfl) (by kernel_rfl) (by kernel_rfl) (fun _ _ _ h => h) (Or.inr ⟨by rfl, rfl⟩) (by assumption) ?_
        (try simp only [Act.put, List.setIfInBounds_toArray, List.set_cons_zero, List.set_cons_succ])
        refine wpAnyH_take (i := 4) (v := undef) (by simp only [List.getElem?_toArray, List.getElem?_cons_succ, List.getElem?_cons_zero]; rfl) (by kernel_rfl) (by kernel_rfl) (by kernel_rfl) (fun _ _ _ h => h) (Or.inr ⟨by rfl, rfl⟩) (by assumption) ?_
        (try simp only [Act.put, List.setIfInBounds_toArray, List.set_cons_zero, List.set_cons_succ])
        refine wpAnyH_take (i := 5) (v := undef) (by simp only [List.getElem?_toArray, List.getElem?_cons_succ, List.getElem?_cons_zero]; rfl) (by kernel_rfl) (by kernel_rfl) (by kernel_rfl) (fun _ _ _ h => h) (Or.inr ⟨by rfl, rfl⟩) (by assumption) ?_
        (try simp only [Act.put, List.setIfInBounds_toArray, List.set_cons_zero, List.set_cons_succ])
        refine wpAnyH_take (i := 6) (v := undef) (by simp only [List.getElem?_toArray, List.getElem?_cons_succ, List.getElem?_cons_zero]; rfl) (by kernel_rfl) (by kernel_rfl) (by kernel_rfl) (fun _ _ _ h => h) (Or.inr ⟨by rfl, rfl⟩) (by assumption) ?_
        (try simp only [Act.put, List.setIfInBounds_toArray, List.set_cons_zero, List.set_cons_succ])
        refine wpAnyH_take (i := 7) (v := undef) (by simp only [List.getElem?_toArray, List.getElem?_cons_succ, List.getElem?_cons_zero]; rfl) (by kernel_rfl) (by kernel_rfl) (by kernel_rfl) (fun _ _ _ h => h) (Or.inr ⟨by rfl, rfl⟩) (by assumption) ?_
        (try simp only [Act.put, List.setIfInBounds_toArray, List.set_cons_zero, List.set_cons_succ])
        refine wpAnyH_take (i := 8) (v := undef) (by simp only [List.getElem?_toArray, List.getElem?_cons_succ, List.getElem?_cons_zero]; rfl) (by kernel_rfl) (by kernel_rfl) (by kernel_rfl) (fun _ _ _ h => h) (Or.inr ⟨by rfl, rfl⟩) (by assumption) ?_
        (try simp only [Act.put, List.setIfInBounds_toArray, List.set_cons_zero, List.set_cons_succ])
        refine wpAnyH_take (i := 9) (v := undef) (by simp only [List.getElem?_toArray, List.getElem?_cons_succ, List.getElem?_cons_zero]; rfl) (by kernel_rfl) (by kernel_rfl) (by kernel_rfl) (fun _ _ _ h => h) (Or.inr ⟨by rfl, rfl⟩) (by assumption) ?_
        (try simp only [Act.put, List.setIfInBounds_toArray, List.set_cons_zero, List.set_cons_succ])
        refine wpAnyH_take (i := 10) (v := undef) (by simp only [List.getElem?_toArray, List.getElem?_cons_succ, List.getElem?_cons_zero]; rfl) (by kernel_rfl) (by kernel_rfl) (by kernel_rfl) (fun _ _ _ h => h) (Or.inr ⟨by rfl, rfl⟩) (by assumption) ?_
        (try simp only [Act.put, List.setIfInBounds_toArray, List.set_cons_zero, List.set_cons_succ])
        refine wpAnyH_take (i := 11) (v := undef) (by simp only [List.getElem?_toArray, List.getElem?_cons_succ, List.getElem?_cons_zero]; rfl) (by kernel_rfl) (by kernel_rfl) (by kernel_rfl) (fun _ _ _ h => h) (Or.inr ⟨by rfl, rfl⟩) (by assumption) ?_
        (try simp only [Act.put, List.setIfInBounds_toArray, List.set_cons_zero, List.set_cons_succ])
        refine wpAnyH_take (i := 12) (v := undef) (by simp only [List.getElem?_toArray, List.getElem?_cons_succ, List.getElem?_cons_zero]; rfl) (by kernel_rfl) (by kernel_rfl) (by kernel_rfl) (fun _ _ _ h => h) (Or.inr ⟨by rfl, rfl⟩) (by assumption) ?_
        (try simp only [Act.put, List.setIfInBounds_toArray, List.set_cons_zero, List.set_cons_succ])
        refine wpAnyH_take (i := 13) (v := undef) (by simp only [List.getElem?_toArray, List.getElem?_cons_succ, List.getElem?_cons_zero]; rfl) (by kernel_rfl) (by kernel_rfl) (by kernel_rfl) (fun _ _ _ h => h) (Or.inr ⟨by rfl, rfl⟩) (by assumption) ?_
        (try simp only [Act.put, List.setIfInBounds_toArray, List.set_cons_zero, List.set_cons_succ])
        refine wpAnyH_take (i := 14) (v := undef) (by simp only [List.getElem?_toArray, List.getElem?_cons_succ, List.getElem?_cons_zero]; rfl) (by kernel_rfl) (by kernel_rfl) (by kernel_rfl) (fun _ _ _ h => h) (Or.inr ⟨by rfl, rfl⟩) (by assumption) ?_
        (try simp only [Act.put, List.setIfInBounds_toArray, List.set_cons_zero, List.set_cons_succ])
        refine wpAnyH_take (i := 15) (v := undef) (by simp only [List.getElem?_toArray, List.getElem?_cons_succ, List.getElem?_cons_zero]; rfl) (by kernel_rfl) (by kernel_rfl) (by kernel_rfl) (fun _ _ _ h => h) (Or.inr ⟨by rfl, rfl⟩) (by assumption) ?_
        (try simp only [Act.put, List.setIfInBounds_toArray, List.set_cons_zero, List.set_cons_succ])
        refine wpAnyH_take (i := 16) (v := ?_) (by simp only [List.getElem?_toArray, List.getElem?_cons_succ, List.getElem?_cons_zero]; rfl) (by kernel_rfl) (by kernel_rfl) (by kernel_rfl) (fun _ _ _ h => h) (Or.inl ⟨by rfl, ?_⟩) (by assumption) ?_
        rotate_left
        focus (intro w hSw; (try dsimp only at hSw); go_simp; first | done | with_reducible rfl)
        (try simp only [Act.put, List.setIfInBounds_toArray, List.set_cons_zero, List.set_cons_succ])
        refine wpAnyH_take (i := 17) (v := ?_) (by simp only [List.getElem?_toArray, List.getElem?_cons_succ, List.getElem?_cons_zero]; rfl) (by kernel_rfl) (by kernel_rfl) (by kernel_rfl) (fun _ _ _ h => h) (Or.inl ⟨by rfl, ?_⟩) (by assumption) ?_
        rotate_left
        focus (intro w hSw; (try dsimp only at hSw); go_simp; first | done | with_reducible rfl)
        (try simp only [Act.put, List.setIfInBounds_toArray, List.set_cons_zero, List.set_cons_succ])
        refine wpAnyH_take (i := 18) (v := undef) (by simp only [List.getElem?_toArray, List.getElem?_cons_succ, List.getElem?_cons_zero]; rfl) (by kernel_rfl) (by kernel_rfl) (by kernel_rfl) (fun _ _ _ h => h) (Or.inr ⟨by rfl, rfl⟩) (by assumption) ?_
        (try simp only [Act.put, List.setIfInBounds_toArray, List.set_cons_zero, List.set_cons_succ])
        refine wpAnyH_take (i := 19) (v := undef) (by simp only [List.getElem?_toArray, List.getElem?_cons_succ, List.getElem?_cons_zero]; rfl) (by kernel_rfl) (by kernel_rfl) (by kernel_rfl) (fun _ _ _ h => h) (Or.inr ⟨by rfl, rfl⟩) (by assumption) ?_
        (try simp only [Act.put, List.setIfInBounds_toArray, List.set_cons_zero, List.set_cons_succ])
        refine wpAnyH_take (i := 20) (v := undef) (by simp only [List.getElem?_toArray, List.getElem?_cons_succ, List.getElem?_cons_zero]; rfl) (by kernel_rfl) (by kernel_rfl) (by kernel_rfl) (fun _ _ _ h => h) (Or.inr ⟨by rfl, rfl⟩) (by assumption) ?_
        (try simp only [Act.put, List.setIfInBounds_toArray, List.set_cons_zero, List.set_cons_succ])
        refine wpAnyH_take (i := 21) (v := undef) (by simp only [List.getElem?_toArray, List.getElem?_cons_succ, List.getElem?_cons_zero]; rfl) (by kernel_rfl) (by kernel_rfl) (by kernel_rfl) (fun _ _ _ h => h) (Or.inr ⟨by rfl, rfl⟩) (by assumption) ?_
        (try simp only [Act.put, List.setIfInBounds_toArray, List.set_cons_zero, List.set_cons_succ])
        refine wpAnyH_take (i := 22) (v := undef) (by simp only [List.getElem?_toArray, List.getElem?_cons_succ, List.getElem?_cons_zero]; rfl) (by kernel_rfl) (by kernel_rfl) (by kernel_rfl) (fun _ _ _ h => h) (Or.inr ⟨by rfl, rfl⟩) (by assumption) ?_
        (try simp only [Act.put, List.setIfInBounds_toArray, List.set_cons_zero, List.set_cons_succ])
        refine wpAnyH_take (i := 23) (v := undef) (by simp only [List.getElem?_toArray, List.getElem?_cons_succ, List.getElem?_cons_zero]; rfl) (by kernel_rfl) (by kernel_rfl) (by kernel_rfl) (fun _ _ _ h => h) (Or.inr ⟨by rfl, rfl⟩) (by assumption) ?_
        (try simp only [Act.put, List.setIfInBounds_toArray, List.set_cons_zero, List.set_cons_succ])
        refine wpAnyH_take (i := 24) (v := undef) (by simp only [List.getElem?_toArray, List.getElem?_cons_succ, List.getElem?_cons_zero]; rfl) (by kernel_rfl) (by kernel_rfl) (by kernel_rfl) (fun _ _ _ h => h) (Or.inr ⟨by rfl, rfl⟩) (by assumption) ?_
        (try simp only [Act.put, List.setIfInBounds_toArray, List.set_cons_zero, List.set_cons_succ])
        refine wpAnyH_take (i := 25) (v := ?_) (by simp only [List.getElem?_toArray, List.getElem?_cons_succ, List.getElem?_cons_zero]; rfl) (by kernel_rfl) (by kernel_rfl) (by kernel_rfl) (fun _ _ _ h => h) (Or.inl ⟨by rfl, ?_⟩) (by assumption) ?_
        rotate_left
        focus (intro w hSw; (try dsimp only at hSw); go_simp; first | done | with_reducible rfl)
        (try simp only [Act.put, List.setIfInBounds_toArray, List.set_cons_zero, List.set_cons_succ])
        refine wpAnyH_done (by kernel_rfl) ?_ _
        refine NoPanic.normal ?_
        go_wp2_with fail
        go_meet
        exact ⟨by first | rfl | (rw [hq.out]), (by go_split_ands; repeat (first | with_reducible assumption | with_reducible exact Below.refl _ _ | with_reducible refine below_al ?_ _ | with_reducible refine below_drew ?_ | with_reducible refine below_drewN ?_ _ | with_reducible refine below_then ?_ hb6))⟩
      | some r =>
        obtain ⟨x, t, m⟩ := r
        obtain ⟨rfl, rfl, rfl, rfl⟩ := q1.out _ _ _ hent
        obtain ⟨hre, hml⟩ := rec_eq_iff (p := b.take at_) hent
        have hwk := ((entO_iff.1 hent).2.2.1).bd
        have hbd := Lib.hid hwk.1
        have hnm : Hid (xn.size ≤ 10000) := Lib.hid (by have := hwk.2; dsimp only at this; omega)
        obtain ⟨e, he⟩ : ∃ e, at_ + m = e := ⟨_, rfl⟩
        rw [List.length_drop] at hml
        have hen : e ≤ n := by have := hn0.out; omega
        have hae : at_ ≤ e := by omega
        have w1 : IntKind.i64.wrap ((at_ : Int) + (m : Int)) = (e : Int) := by rw [IntWalk.i64_in _ (by omega)]; omega
        obtain ⟨A2, hs2, hmid0⟩ := (hv0.out.up HB3).lh at_ e hae hen
        have hmid : Hid (IsB ((b.drop at_).take m) (.slice A2 (e - at_) (c - at_)) W3) := Lib.hid (by rw [show m = e - at_ by omega]; exact hmid0)
        obtain ⟨A3, hs3, hpre0⟩ := (hv0.out.up HB3).hi at_ hat
        have hpre := Lib.hid hpre0
        obtain ⟨eq, heq0⟩ : ∃ eq, decide ((b.drop at_).take m = recE (b.take at_) ⟨xd, xk, xn⟩) = eq := ⟨_, rfl⟩
        have heq := Lib.hid heq0
        have hll : Hid (l.length ≤ 1000) := Lib.hid hg.out.2.2.1
        have hnml : Hid (∀ x ∈ l ++ [(⟨xd, xk, xn⟩ : Ent)], x.name.size ≤ 10000) := Lib.hid (by
          intro y hy
          rcases List.mem_append.1 hy with q | q
          · exact hg.out.2.2.2 y q
          · rw [List.mem_singleton] at q; rw [q]; exact hnm.out)
        cases eq
        · have hq : Hid (q = true) := Lib.hid (by
            have hne : ¬ t = sumF (sumB (b.take at_)) (lineE ⟨xd, xk, xn⟩) := fun h => of_decide_eq_false heq0 (hre.2 h)
            rw [hq0.out]
            unfold nextJ
            simp only [hent]
            rw [if_pos hne])
          replace he := Lib.hid he
          clear hent q1 q2 hq0 hre hml hwk hmid0 hpre0 heq0
          refine wp_region_noPanic ?_
          refine wp_region_held_drew (S := (fun W => Below W3.heap.size W3 W ∧ At W wr2.heap.size 39 #[.int .i64 xd, .int .i64 xk, .string xn] ∧ W.cell? ⟨wr2.heap.size, 0, none⟩ = some (.int .i64 xd) ∧ W.cell? ⟨wr2.heap.size, 1, none⟩ = some (.int .i64 xk) ∧ W.cell? ⟨wr2.heap.size, 2, none⟩ = some (.string xn))) (by kernel_rfl) ?_ (fun hHeld => ?_)
          · (try dsimp only); (first | ((try go_split_ands); refine ⟨?_, ?_, ?_, ?_, ?_⟩; (focus ((repeat (first | with_reducible assumption | with_reducible exact Below.refl _ _ | with_reducible refine below_al ?_ _ | with_reducible refine below_drew ?_ | with_reducible refine below_drewN ?_ _ | with_reducible refine below_then ?_ hb6)); done)); (focus ((repeat (first | with_reducible assumption | with_reducible apply At.drw | with_reducible refine At.al ?_ _ | with_reducible refine At.bel ?_ hb6)); done)); (focus (first | (with_reducible refine At.c0' (t := 39) (x := .int .i64 xd) (y := .int .i64 xk) (z := .string xn) ?_; (repeat (first | with_reducible assumption | with_reducible apply At.drw | with_reducible refine At.al ?_ _ | with_reducible refine At.bel ?_ hb6)); done) | (with_reducible refine At.c1' (t := 39) (x := .int .i64 xd) (y := .int .i64 xk) (z := .string xn) ?_; (repeat (first | with_reducible assumption | with_reducible apply At.drw | with_reducible refine At.al ?_ _ | with_reducible refine At.bel ?_ hb6)); done) | (with_reducible refine At.c2' (t := 39) (x := .int .i64 xd) (y := .int .i64 xk) (z := .string xn) ?_; (repeat (first | with_reducible assumption | with_reducible apply At.drw | with_reducible refine At.al ?_ _ | with_reducible refine At.bel ?_ hb6)); done) )); (focus (first | (with_reducible refine At.c0' (t := 39) (x := .int .i64 xd) (y := .int .i64 xk) (z := .string xn) ?_; (repeat (first | with_reducible assumption | with_reducible apply At.drw | with_reducible refine At.al ?_ _ | with_reducible refine At.bel ?_ hb6)); done) | (with_reducible refine At.c1' (t := 39) (x := .int .i64 xd) (y := .int .i64 xk) (z := .string xn) ?_; (repeat (first | with_reducible assumption | with_reducible apply At.drw | with_reducible refine At.al ?_ _ | with_reducible refine At.bel ?_ hb6)); done) | (with_reducible refine At.c2' (t := 39) (x := .int .i64 xd) (y := .int .i64 xk) (z := .string xn) ?_; (repeat (first | with_reducible assumption | with_reducible apply At.drw | with_reducible refine At.al ?_ _ | with_reducible refine At.bel ?_ hb6)); done) )); (focus (first | (with_reducible refine At.c0' (t := 39) (x := .int .i64 xd) (y := .int .i64 xk) (z := .string xn) ?_; (repeat (first | with_reducible assumption | with_reducible apply At.drw | with_reducible refine At.al ?_ _ | with_reducible refine At.bel ?_ hb6)); done) | (with_reducible refine At.c1' (t := 39) (x := .int .i64 xd) (y := .int .i64 xk) (z := .string xn) ?_; (repeat (first | with_reducible assumption | with_reducible apply At.drw | with_reducible refine At.al ?_ _ | with_reducible refine At.bel ?_ hb6)); done) | (with_reducible refine At.c2' (t := 39) (x := .int .i64 xd) (y := .int .i64 xk) (z := .string xn) ?_; (repeat (first | with_reducible assumption | with_reducible apply At.drw | with_reducible refine At.al ?_ _ | with_reducible refine At.bel ?_ hb6)); done) ))) | go_keep)
          refine wpAnyH_take (i := 0) (v := ?_) (by simp only [List.getElem?_toArray, List.getElem?_cons_zero]; rfl) (by kernel_rfl) (by kernel_rfl) (by kernel_rfl) (fun _ _ _ h => h) (Or.inl ⟨by rfl, ?_⟩) (by assumption) ?_
          rotate_left
          focus (intro w hSw; (try dsimp only at hSw); go_simp; first | done | with_reducible rfl)
          (try simp only [Act.put, List.setIfInBounds_toArray, List.set_cons_zero, List.set_cons_succ])
          refine wpAnyH_take (i := 1) (v := ?_) (by simp only [List.getElem?_toArray, List.getElem?_cons_succ, List.getElem?_cons_zero]; rfl) (by kernel_rfl) (by kernel_rfl) (by kernel_rfl) (fun _ _ _ h => h) (Or.inl ⟨by rfl, ?_⟩) (by assumption) ?_
          rotate_left
          focus (intro w hSw; (try dsimp only at hSw); go_simp; first | done | with_reducible rfl)
          (try simp only [Act.put, List.setIfInBounds_toArray, List.set_cons_zero, List.set_cons_succ])
          refine wpAnyH_take (i := 2) (v := ?_) (by simp only [List.getElem?_toArray, List.getElem?_cons_succ, List.getElem?_cons_zero]; rfl) (by kernel_rfl) (by kernel_rfl) (by kernel_rfl) (fun _ _ _ h => h) (Or.inl ⟨by rfl, ?_⟩) (by assumption) ?_
          rotate_left
          focus (intro w hSw; (try dsimp only at hSw); go_simp; first | done | with_reducible rfl)
          (try simp only [Act.put, List.setIfInBounds_toArray, List.set_cons_zero, List.set_cons_succ])
          refine wpAnyH_take (i := 3) (v := ?_) (by simp only [List.getElem?_toArray, List.getElem?_cons_succ, List.getElem?_cons_zero]; rfl) (by kernel_rfl) (by kernel_rfl) (by kernel_rfl) (fun _ _ _ h => h) (Or.inl ⟨by rfl, ?_⟩) (by assumption) ?_
          rotate_left
          focus (intro w hSw; (try dsimp only at hSw); go_simp; first | done | with_reducible rfl)
          (try simp only [Act.put, List.setIfInBounds_toArray, List.set_cons_zero, List.set_cons_succ])
          refine wpAnyH_take (i := 4) (v := ?_) (by simp only [List.getElem?_toArray, List.getElem?_cons_succ, List.getElem?_cons_zero]; rfl) (by kernel_rfl) (by kernel_rfl) (by kernel_rfl) (fun _ _ _ h => h) (Or.inl ⟨by rfl, ?_⟩) (by assumption) ?_
          rotate_left
          focus (intro w hSw; (try dsimp only at hSw); go_simp; first | done | with_reducible rfl)
          (try simp only [Act.put, List.setIfInBounds_toArray, List.set_cons_zero, List.set_cons_succ])
          refine wpAnyH_take (i := 5) (v := ?_) (by simp only [List.getElem?_toArray, List.getElem?_cons_succ, List.getElem?_cons_zero]; rfl) (by kernel_rfl) (by kernel_rfl) (by kernel_rfl) (fun _ _ _ h => h) (Or.inl ⟨by rfl, ?_⟩) (by assumption) ?_
          rotate_left
          focus (intro w hSw; (try dsimp only at hSw); go_simp; first | done | with_reducible rfl)
          (try simp only [Act.put, List.setIfInBounds_toArray, List.set_cons_zero, List.set_cons_succ])
          refine wpAnyH_take (i := 6) (v := ?_) (by simp only [List.getElem?_toArray, List.getElem?_cons_succ, List.getElem?_cons_zero]; rfl) (by kernel_rfl) (by kernel_rfl) (by kernel_rfl) (fun _ _ _ h => h) (Or.inl ⟨by rfl, ?_⟩) (by assumption) ?_
          rotate_left
          focus (intro w hSw; (try dsimp only at hSw); go_simp; first | done | with_reducible rfl)
          (try simp only [Act.put, List.setIfInBounds_toArray, List.set_cons_zero, List.set_cons_succ])
          refine wpAnyH_take (i := 7) (v := ?_) (by simp only [List.getElem?_toArray, List.getElem?_cons_succ, List.getElem?_cons_zero]; rfl) (by kernel_rfl) (by kernel_rfl) (by kernel_rfl) (fun _ _ _ h => h) (Or.inl ⟨by rfl, ?_⟩) (by assumption) ?_
          rotate_left
          focus (intro w hSw; (try dsimp only at hSw); go_simp; first | done | with_reducible rfl)
          (try simp only [Act.put, List.setIfInBounds_toArray, List.set_cons_zero, List.set_cons_succ])
          refine wpAnyH_take (i := 8) (v := ?_) (by simp only [List.getElem?_toArray, List.getElem?_cons_succ, List.getElem?_cons_zero]; rfl) (by kernel_rfl) (by kernel_rfl) (by kernel_rfl) (fun _ _ _ h => h) (Or.inl ⟨by rfl, ?_⟩) (by assumption) ?_
          rotate_left
          focus (intro w hSw; (try dsimp only at hSw); go_simp; first | done | with_reducible rfl)
          (try simp only [Act.put, List.setIfInBounds_toArray, List.set_cons_zero, List.set_cons_succ])
          refine wpAnyH_take (i := 9) (v := ?_) (by simp only [List.getElem?_toArray, List.getElem?_cons_succ, List.getElem?_cons_zero]; rfl) (by kernel_rfl) (by kernel_rfl) (by kernel_rfl) (fun _ _ _ h => h) (Or.inl ⟨by rfl, ?_⟩) (by assumption) ?_
          rotate_left
          focus (intro w hSw; (try dsimp only at hSw); go_simp; first | done | with_reducible rfl)
          (try simp only [Act.put, List.setIfInBounds_toArray, List.set_cons_zero, List.set_cons_succ])
          refine wpAnyH_take (i := 10) (v := ?_) (by simp only [List.getElem?_toArray, List.getElem?_cons_succ, List.getElem?_cons_zero]; rfl) (by kernel_rfl) (by kernel_rfl) (by kernel_rfl) (fun _ _ _ h => h) (Or.inl ⟨by rfl, ?_⟩) (by assumption) ?_
          rotate_left
          focus (intro w hSw; (try dsimp only at hSw); go_simp; first | done | with_reducible rfl)
          (try simp only [Act.put, List.setIfInBounds_toArray, List.set_cons_zero, List.set_cons_succ])
          refine wpAnyH_take (i := 11) (v := ?_) (by simp only [List.getElem?_toArray, List.getElem?_cons_succ, List.getElem?_cons_zero]; rfl) (by kernel_rfl) (by kernel_rfl) (by kernel_rfl) (fun _ _ _ h => h) (Or.inl ⟨by rfl, ?_⟩) (by assumption) ?_
          rotate_left
          focus (intro w hSw; (try dsimp only at hSw); go_simp; first | done | with_reducible rfl)
          (try simp only [Act.put, List.setIfInBounds_toArray, List.set_cons_zero, List.set_cons_succ])
          refine wpAnyH_take (i := 12) (v := ?_) (by simp only [List.getElem?_toArray, List.getElem?_cons_succ, List.getElem?_cons_zero]; rfl) (by kernel_rfl) (by kernel_rfl) (by kernel_rfl) (fun _ _ _ h => h) (Or.inl ⟨by rfl, ?_⟩) (by assumption) ?_
          rotate_left
          focus (intro w hSw; (try dsimp only at hSw); go_simp; first | done | with_reducible rfl)
          (try simp only [Act.put, List.setIfInBounds_toArray, List.set_cons_zero, List.set_cons_succ])
          refine wpAnyH_ready (rs := [13]) (by kernel_rfl) (by simp) ?_
          refine AllReadyH.cons (i := 13) (by simp only [List.getElem?_toArray, List.getElem?_cons_succ, List.getElem?_cons_zero]; rfl) (fun K hK => ?_) ?_
          · go_simp
            (go_at_call 24; refine (record_v (b.take at_) _ xd xk xn hbd.out.1 hbd.out.2 hnm.out _ (he0.out.bel (below_then HB3 (by go_split_ands; repeat (first | with_reducible assumption | with_reducible exact Below.refl _ _ | with_reducible refine below_al ?_ _ | with_reducible refine below_drew ?_ | with_reducible refine below_drewN ?_ _ | with_reducible refine below_then ?_ hb6)))).tab (hpre.out.up (by go_split_ands; repeat (first | with_reducible assumption | with_reducible exact Below.refl _ _ | with_reducible refine below_al ?_ _ | with_reducible refine below_drew ?_ | with_reducible refine below_drewN ?_ _ | with_reducible refine below_then ?_ hb6)))).mono ?_; rintro e w6 ⟨⟨y, rfl, hy⟩, hb6⟩)
            (try go_wp2_with fail)
            refine hK.out _ _ ?_ (fun hHeld => ?_)
            · (try dsimp only); (first | ((try go_split_ands); refine ⟨?_, ?_, ?_, ?_, ?_⟩; (focus ((repeat (first | with_reducible assumption | with_reducible exact Below.refl _ _ | with_reducible refine below_al ?_ _ | with_reducible refine below_drew ?_ | with_reducible refine below_drewN ?_ _ | with_reducible refine below_then ?_ hb6)); done)); (focus ((repeat (first | with_reducible assumption | with_reducible apply At.drw | with_reducible refine At.al ?_ _ | with_reducible refine At.bel ?_ hb6)); done)); (focus (first | (with_reducible refine At.c0' (t := 39) (x := .int .i64 xd) (y := .int .i64 xk) (z := .string xn) ?_; (repeat (first | with_reducible assumption | with_reducible apply At.drw | with_reducible refine At.al ?_ _ | with_reducible refine At.bel ?_ hb6)); done) | (with_reducible refine At.c1' (t := 39) (x := .int .i64 xd) (y := .int .i64 xk) (z := .string xn) ?_; (repeat (first | with_reducible assumption | with_reducible apply At.drw | with_reducible refine At.al ?_ _ | with_reducible refine At.bel ?_ hb6)); done) | (with_reducible refine At.c2' (t := 39) (x := .int .i64 xd) (y := .int .i64 xk) (z := .string xn) ?_; (repeat (first | with_reducible assumption | with_reducible apply At.drw | with_reducible refine At.al ?_ _ | with_reducible refine At.bel ?_ hb6)); done) )); (focus (first | (with_reducible refine At.c0' (t := 39) (x := .int .i64 xd) (y := .int .i64 xk) (z := .string xn) ?_; (repeat (first | with_reducible assumption | with_reducible apply At.drw | with_reducible refine At.al ?_ _ | with_reducible refine At.bel ?_ hb6)); done) | (with_reducible refine At.c1' (t := 39) (x := .int .i64 xd) (y := .int .i64 xk) (z := .string xn) ?_; (repeat (first | with_reducible assumption | with_reducible apply At.drw | with_reducible refine At.al ?_ _ | with_reducible refine At.bel ?_ hb6)); done) | (with_reducible refine At.c2' (t := 39) (x := .int .i64 xd) (y := .int .i64 xk) (z := .string xn) ?_; (repeat (first | with_reducible assumption | with_reducible apply At.drw | with_reducible refine At.al ?_ _ | with_reducible refine At.bel ?_ hb6)); done) )); (focus (first | (with_reducible refine At.c0' (t := 39) (x := .int .i64 xd) (y := .int .i64 xk) (z := .string xn) ?_; (repeat (first | with_reducible assumption | with_reducible apply At.drw | with_reducible refine At.al ?_ _ | with_reducible refine At.bel ?_ hb6)); done) | (with_reducible refine At.c1' (t := 39) (x := .int .i64 xd) (y := .int .i64 xk) (z := .string xn) ?_; (repeat (first | with_reducible assumption | with_reducible apply At.drw | with_reducible refine At.al ?_ _ | with_reducible refine At.bel ?_ hb6)); done) | (with_reducible refine At.c2' (t := 39) (x := .int .i64 xd) (y := .int .i64 xk) (z := .string xn) ?_; (repeat (first | with_reducible assumption | with_reducible apply At.drw | with_reducible refine At.al ?_ _ | with_reducible refine At.bel ?_ hb6)); done) ))) | go_keep)
            clear hK K
            (try simp only [Act.put, List.setIfInBounds_toArray, List.set_cons_zero, List.set_cons_succ])
            refine wpAnyH_ready (rs := [14]) (by kernel_rfl) (by simp) ?_
            refine AllReadyH.cons (i := 14) (by simp only [List.getElem?_toArray, List.getElem?_cons_succ, List.getElem?_cons_zero]; rfl) (fun K hK => ?_) ?_
            · go_simp
              (go_at_call 45; refine (beq_v _ _ _ _ _ (hmid.out.up (by go_split_ands; repeat (first | with_reducible assumption | with_reducible exact Below.refl _ _ | with_reducible refine below_al ?_ _ | with_reducible refine below_drew ?_ | with_reducible refine below_drewN ?_ _ | with_reducible refine below_then ?_ hb6))) hy.out).mono ?_; rintro e w7 ⟨rfl, rfl⟩; rw [heq.out])
              (try go_wp2_with fail)
              refine hK.out _ _ ?_ (fun hHeld => ?_)
              · (try dsimp only); (first | ((try go_split_ands); refine ⟨?_, ?_, ?_, ?_, ?_⟩; (focus ((repeat (first | with_reducible assumption | with_reducible exact Below.refl _ _ | with_reducible refine below_al ?_ _ | with_reducible refine below_drew ?_ | with_reducible refine below_drewN ?_ _ | with_reducible refine below_then ?_ hb6)); done)); (focus ((repeat (first | with_reducible assumption | with_reducible apply At.drw | with_reducible refine At.al ?_ _ | with_reducible refine At.bel ?_ hb6)); done)); (focus (first | (with_reducible refine At.c0' (t := 39) (x := .int .i64 xd) (y := .int .i64 xk) (z := .string xn) ?_; (repeat (first | with_reducible assumption | with_reducible apply At.drw | with_reducible refine At.al ?_ _ | with_reducible refine At.bel ?_ hb6)); done) | (with_reducible refine At.c1' (t := 39) (x := .int .i64 xd) (y := .int .i64 xk) (z := .string xn) ?_; (repeat (first | with_reducible assumption | with_reducible apply At.drw | with_reducible refine At.al ?_ _ | with_reducible refine At.bel ?_ hb6)); done) | (with_reducible refine At.c2' (t := 39) (x := .int .i64 xd) (y := .int .i64 xk) (z := .string xn) ?_; (repeat (first | with_reducible assumption | with_reducible apply At.drw | with_reducible refine At.al ?_ _ | with_reducible refine At.bel ?_ hb6)); done) )); (focus (first | (with_reducible refine At.c0' (t := 39) (x := .int .i64 xd) (y := .int .i64 xk) (z := .string xn) ?_; (repeat (first | with_reducible assumption | with_reducible apply At.drw | with_reducible refine At.al ?_ _ | with_reducible refine At.bel ?_ hb6)); done) | (with_reducible refine At.c1' (t := 39) (x := .int .i64 xd) (y := .int .i64 xk) (z := .string xn) ?_; (repeat (first | with_reducible assumption | with_reducible apply At.drw | with_reducible refine At.al ?_ _ | with_reducible refine At.bel ?_ hb6)); done) | (with_reducible refine At.c2' (t := 39) (x := .int .i64 xd) (y := .int .i64 xk) (z := .string xn) ?_; (repeat (first | with_reducible assumption | with_reducible apply At.drw | with_reducible refine At.al ?_ _ | with_reducible refine At.bel ?_ hb6)); done) )); (focus (first | (with_reducible refine At.c0' (t := 39) (x := .int .i64 xd) (y := .int .i64 xk) (z := .string xn) ?_; (repeat (first | with_reducible assumption | with_reducible apply At.drw | with_reducible refine At.al ?_ _ | with_reducible refine At.bel ?_ hb6)); done) | (with_reducible refine At.c1' (t := 39) (x := .int .i64 xd) (y := .int .i64 xk) (z := .string xn) ?_; (repeat (first | with_reducible assumption | with_reducible apply At.drw | with_reducible refine At.al ?_ _ | with_reducible refine At.bel ?_ hb6)); done) | (with_reducible refine At.c2' (t := 39) (x := .int .i64 xd) (y := .int .i64 xk) (z := .string xn) ?_; (repeat (first | with_reducible assumption | with_reducible apply At.drw | with_reducible refine At.al ?_ _ | with_reducible refine At.bel ?_ hb6)); done) ))) | go_keep)
              clear hK K
              (try simp only [Act.put, List.setIfInBounds_toArray, List.set_cons_zero, List.set_cons_succ])
              refine wpAnyH_take (i := 15) (v := ?_) (by simp only [List.getElem?_toArray, List.getElem?_cons_succ, List.getElem?_cons_zero]; rfl) (by kernel_rfl) (by kernel_rfl) (by kernel_rfl) (fun _ _ _ h => h) (Or.inl ⟨by rfl, ?_⟩) (by assumption) ?_
              rotate_left
              focus (intro w hSw; (try dsimp only at hSw); go_simp; first | done | with_reducible rfl)
              (try simp only [Act.put, List.setIfInBounds_toArray, List.set_cons_zero, List.set_cons_succ])
              refine wpAnyH_take (i := 16) (v := ?_) (by simp only [List.getElem?_toArray, List.getElem?_cons_succ, List.getElem?_cons_zero]; rfl) (by kernel_rfl) (by kernel_rfl) (by kernel_rfl) (fun _ _ _ h => h) (Or.inl ⟨by rfl, ?_⟩) (by assumption) ?_
              rotate_left
              focus (intro w hSw; (try dsimp only at hSw); go_simp; first | done | with_reducible rfl)
              (try simp only [Act.put, List.setIfInBounds_toArray, List.set_cons_zero, List.set_cons_succ])
              refine wpAnyH_take (i := 17) (v := ?_) (by simp only [List.getElem?_toArray, List.getElem?_cons_succ, List.getElem?_cons_zero]; rfl) (by kernel_rfl) (by kernel_rfl) (by kernel_rfl) (fun _ _ _ h => h) (Or.inl ⟨by rfl, ?_⟩) (by assumption) ?_
              rotate_left
              focus (intro w hSw; (try dsimp only at hSw); go_simp; first | done | with_reducible rfl)
              (try simp only [Act.put, List.setIfInBounds_toArray, List.set_cons_zero, List.set_cons_succ])
              refine wpAnyH_take (i := 18) (v := undef) (by simp only [List.getElem?_toArray, List.getElem?_cons_succ, List.getElem?_cons_zero]; rfl) (by kernel_rfl) (by kernel_rfl) (by kernel_rfl) (fun _ _ _ h => h) (Or.inr ⟨by rfl, rfl⟩) (by assumption) ?_
              (try simp only [Act.put, List.setIfInBounds_toArray, List.set_cons_zero, List.set_cons_succ])
              refine wpAnyH_take (i := 19) (v := undef) (by simp only [List.getElem?_toArray, List.getElem?_cons_succ, List.getElem?_cons_zero]; rfl) (by kernel_rfl) (by kernel_rfl) (by kernel_rfl) (fun _ _ _ h => h) (Or.inr ⟨by rfl, rfl⟩) (by assumption) ?_
              (try simp only [Act.put, List.setIfInBounds_toArray, List.set_cons_zero, List.set_cons_succ])
              refine wpAnyH_take (i := 20) (v := undef) (by simp only [List.getElem?_toArray, List.getElem?_cons_succ, List.getElem?_cons_zero]; rfl) (by kernel_rfl) (by kernel_rfl) (by kernel_rfl) (fun _ _ _ h => h) (Or.inr ⟨by rfl, rfl⟩) (by assumption) ?_
              (try simp only [Act.put, List.setIfInBounds_toArray, List.set_cons_zero, List.set_cons_succ])
              refine wpAnyH_take (i := 21) (v := undef) (by simp only [List.getElem?_toArray, List.getElem?_cons_succ, List.getElem?_cons_zero]; rfl) (by kernel_rfl) (by kernel_rfl) (by kernel_rfl) (fun _ _ _ h => h) (Or.inr ⟨by rfl, rfl⟩) (by assumption) ?_
              (try simp only [Act.put, List.setIfInBounds_toArray, List.set_cons_zero, List.set_cons_succ])
              refine wpAnyH_take (i := 22) (v := undef) (by simp only [List.getElem?_toArray, List.getElem?_cons_succ, List.getElem?_cons_zero]; rfl) (by kernel_rfl) (by kernel_rfl) (by kernel_rfl) (fun _ _ _ h => h) (Or.inr ⟨by rfl, rfl⟩) (by assumption) ?_
              (try simp only [Act.put, List.setIfInBounds_toArray, List.set_cons_zero, List.set_cons_succ])
              refine wpAnyH_take (i := 23) (v := undef) (by simp only [List.getElem?_toArray, List.getElem?_cons_succ, List.getElem?_cons_zero]; rfl) (by kernel_rfl) (by kernel_rfl) (by kernel_rfl) (fun _ _ _ h => h) (Or.inr ⟨by rfl, rfl⟩) (by assumption) ?_
              (try simp only [Act.put, List.setIfInBounds_toArray, List.set_cons_zero, List.set_cons_succ])
              refine wpAnyH_take (i := 24) (v := undef) (by simp only [List.getElem?_toArray, List.getElem?_cons_succ, List.getElem?_cons_zero]; rfl) (by kernel_rfl) (by kernel_rfl) (by kernel_rfl) (fun _ _ _ h => h) (Or.inr ⟨by rfl, rfl⟩) (by assumption) ?_
              (try simp only [Act.put, List.setIfInBounds_toArray, List.set_cons_zero, List.set_cons_succ])
              refine wpAnyH_take (i := 25) (v := ?_) (by simp only [List.getElem?_toArray, List.getElem?_cons_succ, List.getElem?_cons_zero]; rfl) (by kernel_rfl) (by kernel_rfl) (by kernel_rfl) (fun _ _ _ h => h) (Or.inl ⟨by rfl, ?_⟩) (by assumption) ?_
              rotate_left
              focus (intro w hSw; (try dsimp only at hSw); go_simp; first | done | with_reducible rfl)
              (try simp only [Act.put, List.setIfInBounds_toArray, List.set_cons_zero, List.set_cons_succ])
              refine wpAnyH_done (by kernel_rfl) ?_ _
              refine NoPanic.normal ?_
              go_wp2_with fail
              go_meet
              exact ⟨by first | rfl | (rw [hq.out]), (by go_split_ands; repeat (first | with_reducible assumption | with_reducible exact Below.refl _ _ | with_reducible refine below_al ?_ _ | with_reducible refine below_drew ?_ | with_reducible refine below_drewN ?_ _ | with_reducible refine below_then ?_ hb6))⟩
            exact AllReadyH.nil
          exact AllReadyH.nil
        · have hts := hre.1 (of_decide_eq_true heq0)
          obtain ⟨vb, hvb0⟩ : ∃ vb, logV (l ++ [(⟨xd, xk, xn⟩ : Ent)]) = vb := ⟨_, rfl⟩
          have hq : Hid (q = !vb) := Lib.hid (by
            rw [hq0.out]
            unfold nextJ
            simp only [hent]
            rw [if_neg (not_not_intro hts), ← hvb0]
            cases logV (l ++ [(⟨xd, xk, xn⟩ : Ent)]) <;> rfl)
          have hvb := Lib.hid hvb0
          replace he := Lib.hid he
          clear hent q1 q2 hq0 hre hml hwk hmid0 hpre0 heq0 hts hvb0
          refine wp_region_noPanic ?_
          refine wp_region_held_drew (S := (fun W => Below W3.heap.size W3 W ∧ At W wr2.heap.size 39 #[.int .i64 xd, .int .i64 xk, .string xn] ∧ W.cell? ⟨wr2.heap.size, 0, none⟩ = some (.int .i64 xd) ∧ W.cell? ⟨wr2.heap.size, 1, none⟩ = some (.int .i64 xk) ∧ W.cell? ⟨wr2.heap.size, 2, none⟩ = some (.string xn))) (by kernel_rfl) ?_ (fun hHeld => ?_)
          · (try dsimp only); (first | ((try go_split_ands); refine ⟨?_, ?_, ?_, ?_, ?_⟩; (focus ((repeat (first | with_reducible assumption | with_reducible exact Below.refl _ _ | with_reducible refine below_al ?_ _ | with_reducible refine below_drew ?_ | with_reducible refine below_drewN ?_ _ | with_reducible refine below_then ?_ hb6)); done)); (focus ((repeat (first | with_reducible assumption | with_reducible apply At.drw | with_reducible refine At.al ?_ _ | with_reducible refine At.bel ?_ hb6)); done)); (focus (first | (with_reducible refine At.c0' (t := 39) (x := .int .i64 xd) (y := .int .i64 xk) (z := .string xn) ?_; (repeat (first | with_reducible assumption | with_reducible apply At.drw | with_reducible refine At.al ?_ _ | with_reducible refine At.bel ?_ hb6)); done) | (with_reducible refine At.c1' (t := 39) (x := .int .i64 xd) (y := .int .i64 xk) (z := .string xn) ?_; (repeat (first | with_reducible assumption | with_reducible apply At.drw | with_reducible refine At.al ?_ _ | with_reducible refine At.bel ?_ hb6)); done) | (with_reducible refine At.c2' (t := 39) (x := .int .i64 xd) (y := .int .i64 xk) (z := .string xn) ?_; (repeat (first | with_reducible assumption | with_reducible apply At.drw | with_reducible refine At.al ?_ _ | with_reducible refine At.bel ?_ hb6)); done) )); (focus (first | (with_reducible refine At.c0' (t := 39) (x := .int .i64 xd) (y := .int .i64 xk) (z := .string xn) ?_; (repeat (first | with_reducible assumption | with_reducible apply At.drw | with_reducible refine At.al ?_ _ | with_reducible refine At.bel ?_ hb6)); done) | (with_reducible refine At.c1' (t := 39) (x := .int .i64 xd) (y := .int .i64 xk) (z := .string xn) ?_; (repeat (first | with_reducible assumption | with_reducible apply At.drw | with_reducible refine At.al ?_ _ | with_reducible refine At.bel ?_ hb6)); done) | (with_reducible refine At.c2' (t := 39) (x := .int .i64 xd) (y := .int .i64 xk) (z := .string xn) ?_; (repeat (first | with_reducible assumption | with_reducible apply At.drw | with_reducible refine At.al ?_ _ | with_reducible refine At.bel ?_ hb6)); done) )); (focus (first | (with_reducible refine At.c0' (t := 39) (x := .int .i64 xd) (y := .int .i64 xk) (z := .string xn) ?_; (repeat (first | with_reducible assumption | with_reducible apply At.drw | with_reducible refine At.al ?_ _ | with_reducible refine At.bel ?_ hb6)); done) | (with_reducible refine At.c1' (t := 39) (x := .int .i64 xd) (y := .int .i64 xk) (z := .string xn) ?_; (repeat (first | with_reducible assumption | with_reducible apply At.drw | with_reducible refine At.al ?_ _ | with_reducible refine At.bel ?_ hb6)); done) | (with_reducible refine At.c2' (t := 39) (x := .int .i64 xd) (y := .int .i64 xk) (z := .string xn) ?_; (repeat (first | with_reducible assumption | with_reducible apply At.drw | with_reducible refine At.al ?_ _ | with_reducible refine At.bel ?_ hb6)); done) ))) | go_keep)
          refine wpAnyH_take (i := 0) (v := ?_) (by simp only [List.getElem?_toArray, List.getElem?_cons_zero]; rfl) (by kernel_rfl) (by kernel_rfl) (by kernel_rfl) (fun _ _ _ h => h) (Or.inl ⟨by rfl, ?_⟩) (by assumption) ?_
          rotate_left
          focus (intro w hSw; (try dsimp only at hSw); go_simp; first | done | with_reducible rfl)
          (try simp only [Act.put, List.setIfInBounds_toArray, List.set_cons_zero, List.set_cons_succ])
          refine wpAnyH_take (i := 1) (v := ?_) (by simp only [List.getElem?_toArray, List.getElem?_cons_succ, List.getElem?_cons_zero]; rfl) (by kernel_rfl) (by kernel_rfl) (by kernel_rfl) (fun _ _ _ h => h) (Or.inl ⟨by rfl, ?_⟩) (by assumption) ?_
          rotate_left
          focus (intro w hSw; (try dsimp only at hSw); go_simp; first | done | with_reducible rfl)
          (try simp only [Act.put, List.setIfInBounds_toArray, List.set_cons_zero, List.set_cons_succ])
          refine wpAnyH_take (i := 2) (v := ?_) (by simp only [List.getElem?_toArray, List.getElem?_cons_succ, List.getElem?_cons_zero]; rfl) (by kernel_rfl) (by kernel_rfl) (by kernel_rfl) (fun _ _ _ h => h) (Or.inl ⟨by rfl, ?_⟩) (by assumption) ?_
          rotate_left
          focus (intro w hSw; (try dsimp only at hSw); go_simp; first | done | with_reducible rfl)
          (try simp only [Act.put, List.setIfInBounds_toArray, List.set_cons_zero, List.set_cons_succ])
          refine wpAnyH_take (i := 3) (v := ?_) (by simp only [List.getElem?_toArray, List.getElem?_cons_succ, List.getElem?_cons_zero]; rfl) (by kernel_rfl) (by kernel_rfl) (by kernel_rfl) (fun _ _ _ h => h) (Or.inl ⟨by rfl, ?_⟩) (by assumption) ?_
          rotate_left
          focus (intro w hSw; (try dsimp only at hSw); go_simp; first | done | with_reducible rfl)
          (try simp only [Act.put, List.setIfInBounds_toArray, List.set_cons_zero, List.set_cons_succ])
          refine wpAnyH_take (i := 4) (v := ?_) (by simp only [List.getElem?_toArray, List.getElem?_cons_succ, List.getElem?_cons_zero]; rfl) (by kernel_rfl) (by kernel_rfl) (by kernel_rfl) (fun _ _ _ h => h) (Or.inl ⟨by rfl, ?_⟩) (by assumption) ?_
          rotate_left
          focus (intro w hSw; (try dsimp only at hSw); go_simp; first | done | with_reducible rfl)
          (try simp only [Act.put, List.setIfInBounds_toArray, List.set_cons_zero, List.set_cons_succ])
          refine wpAnyH_take (i := 5) (v := ?_) (by simp only [List.getElem?_toArray, List.getElem?_cons_succ, List.getElem?_cons_zero]; rfl) (by kernel_rfl) (by kernel_rfl) (by kernel_rfl) (fun _ _ _ h => h) (Or.inl ⟨by rfl, ?_⟩) (by assumption) ?_
          rotate_left
          focus (intro w hSw; (try dsimp only at hSw); go_simp; first | done | with_reducible rfl)
          (try simp only [Act.put, List.setIfInBounds_toArray, List.set_cons_zero, List.set_cons_succ])
          refine wpAnyH_take (i := 6) (v := ?_) (by simp only [List.getElem?_toArray, List.getElem?_cons_succ, List.getElem?_cons_zero]; rfl) (by kernel_rfl) (by kernel_rfl) (by kernel_rfl) (fun _ _ _ h => h) (Or.inl ⟨by rfl, ?_⟩) (by assumption) ?_
          rotate_left
          focus (intro w hSw; (try dsimp only at hSw); go_simp; first | done | with_reducible rfl)
          (try simp only [Act.put, List.setIfInBounds_toArray, List.set_cons_zero, List.set_cons_succ])
          refine wpAnyH_take (i := 7) (v := ?_) (by simp only [List.getElem?_toArray, List.getElem?_cons_succ, List.getElem?_cons_zero]; rfl) (by kernel_rfl) (by kernel_rfl) (by kernel_rfl) (fun _ _ _ h => h) (Or.inl ⟨by rfl, ?_⟩) (by assumption) ?_
          rotate_left
          focus (intro w hSw; (try dsimp only at hSw); go_simp; first | done | with_reducible rfl)
          (try simp only [Act.put, List.setIfInBounds_toArray, List.set_cons_zero, List.set_cons_succ])
          refine wpAnyH_take (i := 8) (v := ?_) (by simp only [List.getElem?_toArray, List.getElem?_cons_succ, List.getElem?_cons_zero]; rfl) (by kernel_rfl) (by kernel_rfl) (by kernel_rfl) (fun _ _ _ h => h) (Or.inl ⟨by rfl, ?_⟩) (by assumption) ?_
          rotate_left
          focus (intro w hSw; (try dsimp only at hSw); go_simp; first | done | with_reducible rfl)
          (try simp only [Act.put, List.setIfInBounds_toArray, List.set_cons_zero, List.set_cons_succ])
          refine wpAnyH_take (i := 9) (v := ?_) (by simp only [List.getElem?_toArray, List.getElem?_cons_succ, List.getElem?_cons_zero]; rfl) (by kernel_rfl) (by kernel_rfl) (by kernel_rfl) (fun _ _ _ h => h) (Or.inl ⟨by rfl, ?_⟩) (by assumption) ?_
          rotate_left
          focus (intro w hSw; (try dsimp only at hSw); go_simp; first | done | with_reducible rfl)
          (try simp only [Act.put, List.setIfInBounds_toArray, List.set_cons_zero, List.set_cons_succ])
          refine wpAnyH_take (i := 10) (v := ?_) (by simp only [List.getElem?_toArray, List.getElem?_cons_succ, List.getElem?_cons_zero]; rfl) (by kernel_rfl) (by kernel_rfl) (by kernel_rfl) (fun _ _ _ h => h) (Or.inl ⟨by rfl, ?_⟩) (by assumption) ?_
          rotate_left
          focus (intro w hSw; (try dsimp only at hSw); go_simp; first | done | with_reducible rfl)
          (try simp only [Act.put, List.setIfInBounds_toArray, List.set_cons_zero, List.set_cons_succ])
          refine wpAnyH_take (i := 11) (v := ?_) (by simp only [List.getElem?_toArray, List.getElem?_cons_succ, List.getElem?_cons_zero]; rfl) (by kernel_rfl) (by kernel_rfl) (by kernel_rfl) (fun _ _ _ h => h) (Or.inl ⟨by rfl, ?_⟩) (by assumption) ?_
          rotate_left
          focus (intro w hSw; (try dsimp only at hSw); go_simp; first | done | with_reducible rfl)
          (try simp only [Act.put, List.setIfInBounds_toArray, List.set_cons_zero, List.set_cons_succ])
          refine wpAnyH_take (i := 12) (v := ?_) (by simp only [List.getElem?_toArray, List.getElem?_cons_succ, List.getElem?_cons_zero]; rfl) (by kernel_rfl) (by kernel_rfl) (by kernel_rfl) (fun _ _ _ h => h) (Or.inl ⟨by rfl, ?_⟩) (by assumption) ?_
          rotate_left
          focus (intro w hSw; (try dsimp only at hSw); go_simp; first | done | with_reducible rfl)
          (try simp only [Act.put, List.setIfInBounds_toArray, List.set_cons_zero, List.set_cons_succ])
          refine wpAnyH_ready (rs := [13]) (by kernel_rfl) (by simp) ?_
          refine AllReadyH.cons (i := 13) (by simp only [List.getElem?_toArray, List.getElem?_cons_succ, List.getElem?_cons_zero]; rfl) (fun K hK => ?_) ?_
          · go_simp
            (go_at_call 24; refine (record_v (b.take at_) _ xd xk xn hbd.out.1 hbd.out.2 hnm.out _ (he0.out.bel (below_then HB3 (by go_split_ands; repeat (first | with_reducible assumption | with_reducible exact Below.refl _ _ | with_reducible refine below_al ?_ _ | with_reducible refine below_drew ?_ | with_reducible refine below_drewN ?_ _ | with_reducible refine below_then ?_ hb6)))).tab (hpre.out.up (by go_split_ands; repeat (first | with_reducible assumption | with_reducible exact Below.refl _ _ | with_reducible refine below_al ?_ _ | with_reducible refine below_drew ?_ | with_reducible refine below_drewN ?_ _ | with_reducible refine below_then ?_ hb6)))).mono ?_; rintro e w6 ⟨⟨y, rfl, hy⟩, hb6⟩)
            (try go_wp2_with fail)
            refine hK.out _ _ ?_ (fun hHeld => ?_)
            · (try dsimp only); (first | ((try go_split_ands); refine ⟨?_, ?_, ?_, ?_, ?_⟩; (focus ((repeat (first | with_reducible assumption | with_reducible exact Below.refl _ _ | with_reducible refine below_al ?_ _ | with_reducible refine below_drew ?_ | with_reducible refine below_drewN ?_ _ | with_reducible refine below_then ?_ hb6)); done)); (focus ((repeat (first | with_reducible assumption | with_reducible apply At.drw | with_reducible refine At.al ?_ _ | with_reducible refine At.bel ?_ hb6)); done)); (focus (first | (with_reducible refine At.c0' (t := 39) (x := .int .i64 xd) (y := .int .i64 xk) (z := .string xn) ?_; (repeat (first | with_reducible assumption | with_reducible apply At.drw | with_reducible refine At.al ?_ _ | with_reducible refine At.bel ?_ hb6)); done) | (with_reducible refine At.c1' (t := 39) (x := .int .i64 xd) (y := .int .i64 xk) (z := .string xn) ?_; (repeat (first | with_reducible assumption | with_reducible apply At.drw | with_reducible refine At.al ?_ _ | with_reducible refine At.bel ?_ hb6)); done) | (with_reducible refine At.c2' (t := 39) (x := .int .i64 xd) (y := .int .i64 xk) (z := .string xn) ?_; (repeat (first | with_reducible assumption | with_reducible apply At.drw | with_reducible refine At.al ?_ _ | with_reducible refine At.bel ?_ hb6)); done) )); (focus (first | (with_reducible refine At.c0' (t := 39) (x := .int .i64 xd) (y := .int .i64 xk) (z := .string xn) ?_; (repeat (first | with_reducible assumption | with_reducible apply At.drw | with_reducible refine At.al ?_ _ | with_reducible refine At.bel ?_ hb6)); done) | (with_reducible refine At.c1' (t := 39) (x := .int .i64 xd) (y := .int .i64 xk) (z := .string xn) ?_; (repeat (first | with_reducible assumption | with_reducible apply At.drw | with_reducible refine At.al ?_ _ | with_reducible refine At.bel ?_ hb6)); done) | (with_reducible refine At.c2' (t := 39) (x := .int .i64 xd) (y := .int .i64 xk) (z := .string xn) ?_; (repeat (first | with_reducible assumption | with_reducible apply At.drw | with_reducible refine At.al ?_ _ | with_reducible refine At.bel ?_ hb6)); done) )); (focus (first | (with_reducible refine At.c0' (t := 39) (x := .int .i64 xd) (y := .int .i64 xk) (z := .string xn) ?_; (repeat (first | with_reducible assumption | with_reducible apply At.drw | with_reducible refine At.al ?_ _ | with_reducible refine At.bel ?_ hb6)); done) | (with_reducible refine At.c1' (t := 39) (x := .int .i64 xd) (y := .int .i64 xk) (z := .string xn) ?_; (repeat (first | with_reducible assumption | with_reducible apply At.drw | with_reducible refine At.al ?_ _ | with_reducible refine At.bel ?_ hb6)); done) | (with_reducible refine At.c2' (t := 39) (x := .int .i64 xd) (y := .int .i64 xk) (z := .string xn) ?_; (repeat (first | with_reducible assumption | with_reducible apply At.drw | with_reducible refine At.al ?_ _ | with_reducible refine At.bel ?_ hb6)); done) ))) | go_keep)
            clear hK K
            (try simp only [Act.put, List.setIfInBounds_toArray, List.set_cons_zero, List.set_cons_succ])
            refine wpAnyH_ready (rs := [14]) (by kernel_rfl) (by simp) ?_
            refine AllReadyH.cons (i := 14) (by simp only [List.getElem?_toArray, List.getElem?_cons_succ, List.getElem?_cons_zero]; rfl) (fun K hK => ?_) ?_
            · go_simp
              (go_at_call 45; refine (beq_v _ _ _ _ _ (hmid.out.up (by go_split_ands; repeat (first | with_reducible assumption | with_reducible exact Below.refl _ _ | with_reducible refine below_al ?_ _ | with_reducible refine below_drew ?_ | with_reducible refine below_drewN ?_ _ | with_reducible refine below_then ?_ hb6))) hy.out).mono ?_; rintro e w7 ⟨rfl, rfl⟩; rw [heq.out])
              (try go_wp2_with fail)
              refine hK.out _ _ ?_ (fun hHeld => ?_)
              · (try dsimp only); (first | ((try go_split_ands); refine ⟨?_, ?_, ?_, ?_, ?_⟩; (focus ((repeat (first | with_reducible assumption | with_reducible exact Below.refl _ _ | with_reducible refine below_al ?_ _ | with_reducible refine below_drew ?_ | with_reducible refine below_drewN ?_ _ | with_reducible refine below_then ?_ hb6)); done)); (focus ((repeat (first | with_reducible assumption | with_reducible apply At.drw | with_reducible refine At.al ?_ _ | with_reducible refine At.bel ?_ hb6)); done)); (focus (first | (with_reducible refine At.c0' (t := 39) (x := .int .i64 xd) (y := .int .i64 xk) (z := .string xn) ?_; (repeat (first | with_reducible assumption | with_reducible apply At.drw | with_reducible refine At.al ?_ _ | with_reducible refine At.bel ?_ hb6)); done) | (with_reducible refine At.c1' (t := 39) (x := .int .i64 xd) (y := .int .i64 xk) (z := .string xn) ?_; (repeat (first | with_reducible assumption | with_reducible apply At.drw | with_reducible refine At.al ?_ _ | with_reducible refine At.bel ?_ hb6)); done) | (with_reducible refine At.c2' (t := 39) (x := .int .i64 xd) (y := .int .i64 xk) (z := .string xn) ?_; (repeat (first | with_reducible assumption | with_reducible apply At.drw | with_reducible refine At.al ?_ _ | with_reducible refine At.bel ?_ hb6)); done) )); (focus (first | (with_reducible refine At.c0' (t := 39) (x := .int .i64 xd) (y := .int .i64 xk) (z := .string xn) ?_; (repeat (first | with_reducible assumption | with_reducible apply At.drw | with_reducible refine At.al ?_ _ | with_reducible refine At.bel ?_ hb6)); done) | (with_reducible refine At.c1' (t := 39) (x := .int .i64 xd) (y := .int .i64 xk) (z := .string xn) ?_; (repeat (first | with_reducible assumption | with_reducible apply At.drw | with_reducible refine At.al ?_ _ | with_reducible refine At.bel ?_ hb6)); done) | (with_reducible refine At.c2' (t := 39) (x := .int .i64 xd) (y := .int .i64 xk) (z := .string xn) ?_; (repeat (first | with_reducible assumption | with_reducible apply At.drw | with_reducible refine At.al ?_ _ | with_reducible refine At.bel ?_ hb6)); done) )); (focus (first | (with_reducible refine At.c0' (t := 39) (x := .int .i64 xd) (y := .int .i64 xk) (z := .string xn) ?_; (repeat (first | with_reducible assumption | with_reducible apply At.drw | with_reducible refine At.al ?_ _ | with_reducible refine At.bel ?_ hb6)); done) | (with_reducible refine At.c1' (t := 39) (x := .int .i64 xd) (y := .int .i64 xk) (z := .string xn) ?_; (repeat (first | with_reducible assumption | with_reducible apply At.drw | with_reducible refine At.al ?_ _ | with_reducible refine At.bel ?_ hb6)); done) | (with_reducible refine At.c2' (t := 39) (x := .int .i64 xd) (y := .int .i64 xk) (z := .string xn) ?_; (repeat (first | with_reducible assumption | with_reducible apply At.drw | with_reducible refine At.al ?_ _ | with_reducible refine At.bel ?_ hb6)); done) ))) | go_keep)
              clear hK K
              (try simp only [Act.put, List.setIfInBounds_toArray, List.set_cons_zero, List.set_cons_succ])
              refine wpAnyH_take (i := 15) (v := ?_) (by simp only [List.getElem?_toArray, List.getElem?_cons_succ, List.getElem?_cons_zero]; rfl) (by kernel_rfl) (by kernel_rfl) (by kernel_rfl) (fun _ _ _ h => h) (Or.inl ⟨by rfl, ?_⟩) (by assumption) ?_
              rotate_left
              focus (intro w hSw; (try dsimp only at hSw); go_simp; first | done | with_reducible rfl)
              (try simp only [Act.put, List.setIfInBounds_toArray, List.set_cons_zero, List.set_cons_succ])
              refine wpAnyH_take (i := 16) (v := ?_) (by simp only [List.getElem?_toArray, List.getElem?_cons_succ, List.getElem?_cons_zero]; rfl) (by kernel_rfl) (by kernel_rfl) (by kernel_rfl) (fun _ _ _ h => h) (Or.inl ⟨by rfl, ?_⟩) (by assumption) ?_
              rotate_left
              focus (intro w hSw; (try dsimp only at hSw); go_simp; first | done | with_reducible rfl)
              (try simp only [Act.put, List.setIfInBounds_toArray, List.set_cons_zero, List.set_cons_succ])
              refine wpAnyH_take (i := 17) (v := ?_) (by simp only [List.getElem?_toArray, List.getElem?_cons_succ, List.getElem?_cons_zero]; rfl) (by kernel_rfl) (by kernel_rfl) (by kernel_rfl) (fun _ _ _ h => h) (Or.inl ⟨by rfl, ?_⟩) (by assumption) ?_
              rotate_left
              focus (intro w hSw; (try dsimp only at hSw); go_simp; first | done | with_reducible rfl)
              (try simp only [Act.put, List.setIfInBounds_toArray, List.set_cons_zero, List.set_cons_succ])
              refine wpAnyH_take (i := 18) (v := ?_) (by simp only [List.getElem?_toArray, List.getElem?_cons_succ, List.getElem?_cons_zero]; rfl) (by kernel_rfl) (by kernel_rfl) (by kernel_rfl) (fun _ _ _ h => h) (Or.inl ⟨by rfl, ?_⟩) (by assumption) ?_
              rotate_left
              focus (intro w hSw; (try dsimp only at hSw); go_simp; first | done | with_reducible rfl)
              (try simp only [Act.put, List.setIfInBounds_toArray, List.set_cons_zero, List.set_cons_succ])
              refine wpAnyH_take (i := 20) (v := ?_) (by simp only [List.getElem?_toArray, List.getElem?_cons_succ, List.getElem?_cons_zero]; rfl) (by kernel_rfl) (by kernel_rfl) (by kernel_rfl) (fun _ _ _ h => h) (Or.inl ⟨by rfl, ?_⟩) (by assumption) ?_
              rotate_left
              focus (intro w hSw; (try dsimp only at hSw); go_simp; first | done | with_reducible rfl)
              (try simp only [Act.put, List.setIfInBounds_toArray, List.set_cons_zero, List.set_cons_succ])
              refine wpAnyH_ready (rs := [19, 21]) (by kernel_rfl) (by simp) ?_
              refine AllReadyH.cons (i := 19) (by simp only [List.getElem?_toArray, List.getElem?_cons_succ, List.getElem?_cons_zero]; rfl) (fun K hK => ?_) ?_
              · go_simp
                (go_at_call 27; refine (cloneE_own (ownsRow_below ho.out (by go_split_ands; repeat (first | with_reducible assumption | with_reducible exact Below.refl _ _ | with_reducible refine below_al ?_ _ | with_reducible refine below_drew ?_ | with_reducible refine below_drewN ?_ _ | with_reducible refine below_then ?_ hb6))) (by have := hll.out; omega)).mono ?_; rintro e w8 ⟨⟨cy, cc, rfl, hcl0⟩, hb6⟩; have hcl := own_weak (base' := W3.heap.size) hcl0.out (Below.size (B := W3.heap.size) (w := W3) (by go_split_ands; repeat (first | with_reducible assumption | with_reducible exact Below.refl _ _ | with_reducible refine below_al ?_ _ | with_reducible refine below_drew ?_ | with_reducible refine below_drewN ?_ _ | with_reducible refine below_then ?_ hb6))))
                (try go_wp2_with fail)
                refine hK.out _ _ ?_ (fun hHeld => ?_)
                · (try dsimp only); (first | ((try go_split_ands); refine ⟨?_, ?_, ?_, ?_, ?_⟩; (focus ((repeat (first | with_reducible assumption | with_reducible exact Below.refl _ _ | with_reducible refine below_al ?_ _ | with_reducible refine below_drew ?_ | with_reducible refine below_drewN ?_ _ | with_reducible refine below_then ?_ hb6)); done)); (focus ((repeat (first | with_reducible assumption | with_reducible apply At.drw | with_reducible refine At.al ?_ _ | with_reducible refine At.bel ?_ hb6)); done)); (focus (first | (with_reducible refine At.c0' (t := 39) (x := .int .i64 xd) (y := .int .i64 xk) (z := .string xn) ?_; (repeat (first | with_reducible assumption | with_reducible apply At.drw | with_reducible refine At.al ?_ _ | with_reducible refine At.bel ?_ hb6)); done) | (with_reducible refine At.c1' (t := 39) (x := .int .i64 xd) (y := .int .i64 xk) (z := .string xn) ?_; (repeat (first | with_reducible assumption | with_reducible apply At.drw | with_reducible refine At.al ?_ _ | with_reducible refine At.bel ?_ hb6)); done) | (with_reducible refine At.c2' (t := 39) (x := .int .i64 xd) (y := .int .i64 xk) (z := .string xn) ?_; (repeat (first | with_reducible assumption | with_reducible apply At.drw | with_reducible refine At.al ?_ _ | with_reducible refine At.bel ?_ hb6)); done) )); (focus (first | (with_reducible refine At.c0' (t := 39) (x := .int .i64 xd) (y := .int .i64 xk) (z := .string xn) ?_; (repeat (first | with_reducible assumption | with_reducible apply At.drw | with_reducible refine At.al ?_ _ | with_reducible refine At.bel ?_ hb6)); done) | (with_reducible refine At.c1' (t := 39) (x := .int .i64 xd) (y := .int .i64 xk) (z := .string xn) ?_; (repeat (first | with_reducible assumption | with_reducible apply At.drw | with_reducible refine At.al ?_ _ | with_reducible refine At.bel ?_ hb6)); done) | (with_reducible refine At.c2' (t := 39) (x := .int .i64 xd) (y := .int .i64 xk) (z := .string xn) ?_; (repeat (first | with_reducible assumption | with_reducible apply At.drw | with_reducible refine At.al ?_ _ | with_reducible refine At.bel ?_ hb6)); done) )); (focus (first | (with_reducible refine At.c0' (t := 39) (x := .int .i64 xd) (y := .int .i64 xk) (z := .string xn) ?_; (repeat (first | with_reducible assumption | with_reducible apply At.drw | with_reducible refine At.al ?_ _ | with_reducible refine At.bel ?_ hb6)); done) | (with_reducible refine At.c1' (t := 39) (x := .int .i64 xd) (y := .int .i64 xk) (z := .string xn) ?_; (repeat (first | with_reducible assumption | with_reducible apply At.drw | with_reducible refine At.al ?_ _ | with_reducible refine At.bel ?_ hb6)); done) | (with_reducible refine At.c2' (t := 39) (x := .int .i64 xd) (y := .int .i64 xk) (z := .string xn) ?_; (repeat (first | with_reducible assumption | with_reducible apply At.drw | with_reducible refine At.al ?_ _ | with_reducible refine At.bel ?_ hb6)); done) ))) | go_keep)
                clear hK K
                (try simp only [Act.put, List.setIfInBounds_toArray, List.set_cons_zero, List.set_cons_succ])
                refine wpAnyH_ready (rs := [21]) (by kernel_rfl) (by simp) ?_
                refine AllReadyH.cons (i := 21) (by simp only [List.getElem?_toArray, List.getElem?_cons_succ, List.getElem?_cons_zero]; rfl) (fun K hK => ?_) ?_
                · go_simp
                  refine hK.out _ _ ?_ (fun hHeld => ?_)
                  · (try dsimp only); (first | ((try go_split_ands); refine ⟨?_, ?_, ?_, ?_, ?_⟩; (focus ((repeat (first | with_reducible assumption | with_reducible exact Below.refl _ _ | with_reducible refine below_al ?_ _ | with_reducible refine below_drew ?_ | with_reducible refine below_drewN ?_ _ | with_reducible refine below_then ?_ hb6)); done)); (focus ((repeat (first | with_reducible assumption | with_reducible apply At.drw | with_reducible refine At.al ?_ _ | with_reducible refine At.bel ?_ hb6)); done)); (focus (first | (with_reducible refine At.c0' (t := 39) (x := .int .i64 xd) (y := .int .i64 xk) (z := .string xn) ?_; (repeat (first | with_reducible assumption | with_reducible apply At.drw | with_reducible refine At.al ?_ _ | with_reducible refine At.bel ?_ hb6)); done) | (with_reducible refine At.c1' (t := 39) (x := .int .i64 xd) (y := .int .i64 xk) (z := .string xn) ?_; (repeat (first | with_reducible assumption | with_reducible apply At.drw | with_reducible refine At.al ?_ _ | with_reducible refine At.bel ?_ hb6)); done) | (with_reducible refine At.c2' (t := 39) (x := .int .i64 xd) (y := .int .i64 xk) (z := .string xn) ?_; (repeat (first | with_reducible assumption | with_reducible apply At.drw | with_reducible refine At.al ?_ _ | with_reducible refine At.bel ?_ hb6)); done) )); (focus (first | (with_reducible refine At.c0' (t := 39) (x := .int .i64 xd) (y := .int .i64 xk) (z := .string xn) ?_; (repeat (first | with_reducible assumption | with_reducible apply At.drw | with_reducible refine At.al ?_ _ | with_reducible refine At.bel ?_ hb6)); done) | (with_reducible refine At.c1' (t := 39) (x := .int .i64 xd) (y := .int .i64 xk) (z := .string xn) ?_; (repeat (first | with_reducible assumption | with_reducible apply At.drw | with_reducible refine At.al ?_ _ | with_reducible refine At.bel ?_ hb6)); done) | (with_reducible refine At.c2' (t := 39) (x := .int .i64 xd) (y := .int .i64 xk) (z := .string xn) ?_; (repeat (first | with_reducible assumption | with_reducible apply At.drw | with_reducible refine At.al ?_ _ | with_reducible refine At.bel ?_ hb6)); done) )); (focus (first | (with_reducible refine At.c0' (t := 39) (x := .int .i64 xd) (y := .int .i64 xk) (z := .string xn) ?_; (repeat (first | with_reducible assumption | with_reducible apply At.drw | with_reducible refine At.al ?_ _ | with_reducible refine At.bel ?_ hb6)); done) | (with_reducible refine At.c1' (t := 39) (x := .int .i64 xd) (y := .int .i64 xk) (z := .string xn) ?_; (repeat (first | with_reducible assumption | with_reducible apply At.drw | with_reducible refine At.al ?_ _ | with_reducible refine At.bel ?_ hb6)); done) | (with_reducible refine At.c2' (t := 39) (x := .int .i64 xd) (y := .int .i64 xk) (z := .string xn) ?_; (repeat (first | with_reducible assumption | with_reducible apply At.drw | with_reducible refine At.al ?_ _ | with_reducible refine At.bel ?_ hb6)); done) ))) | go_keep)
                  clear hK K
                  (try simp only [Act.put, List.setIfInBounds_toArray, List.set_cons_zero, List.set_cons_succ])
                  refine wpAnyH_ready (rs := [22]) (by kernel_rfl) (by simp) ?_
                  refine AllReadyH.cons (i := 22) (by simp only [List.getElem?_toArray, List.getElem?_cons_succ, List.getElem?_cons_zero]; rfl) (fun K hK => ?_) ?_
                  · (refine step_append_w _ rfl (.tmp 42) (.tmp 44) 30 rfl W3.heap.size 39 i0 (.agg #[.int .i64 0, .int .i64 0, .string ⟨#[]⟩]) 3 32 Tryz.underlying30 hi hz0 hz1 hz2 rfl (by decide) (.slice cy l.length cc) l.length (l.flatMap encE) (by first | rfl | (simp [Act.eval]; done)) (hcl.alloc _) ⟨w8.heap.size, 0, none⟩ 1 1 [.int .i64 xd, .int .i64 xk, .string xn] (by first | rfl | (simp [Act.eval]; done)) rfl (three_new (At.new _ _ _)) (by intro u hu; simp at hu; rcases hu with rfl | rfl | rfl <;> rfl) (by have := hll.out; unfold maxLen; omega) (by have := hll.out; omega) (Below.size (B := W3.heap.size) (w := W3) (by go_split_ands; repeat (first | with_reducible assumption | with_reducible exact Below.refl _ _ | with_reducible refine below_al ?_ _ | with_reducible refine below_drew ?_ | with_reducible refine below_drewN ?_ _ | with_reducible refine below_then ?_ hb6))) ?_; intro a5 c5 w9 ho9 hg9 hloc9; have hB9 : Below W3.heap.size W3 w9 := below_grown (by go_split_ands; repeat (first | with_reducible assumption | with_reducible exact Below.refl _ _ | with_reducible refine below_al ?_ _ | with_reducible refine below_drew ?_ | with_reducible refine below_drewN ?_ _ | with_reducible refine below_then ?_ hb6)) hg9 (fun j hj => (own_lt hcl hj).2); have kx9 : At w9 wr2.heap.size 39 #[.int .i64 xd, .int .i64 xk, .string xn] := At.bel kx hB9; replace ho9 := Lib.hid (row_push ho9); clear hg9 hloc9)
                    refine hK.out _ _ ?_ (fun hHeld => ?_)
                    · (try dsimp only); (first | ((try go_split_ands); refine ⟨?_, ?_, ?_, ?_, ?_⟩; (focus ((repeat (first | with_reducible assumption | with_reducible exact Below.refl _ _ | with_reducible refine below_al ?_ _ | with_reducible refine below_drew ?_ | with_reducible refine below_drewN ?_ _ | with_reducible refine below_then ?_ hb6)); done)); (focus ((repeat (first | with_reducible assumption | with_reducible apply At.drw | with_reducible refine At.al ?_ _ | with_reducible refine At.bel ?_ hb6)); done)); (focus (first | (with_reducible refine At.c0' (t := 39) (x := .int .i64 xd) (y := .int .i64 xk) (z := .string xn) ?_; (repeat (first | with_reducible assumption | with_reducible apply At.drw | with_reducible refine At.al ?_ _ | with_reducible refine At.bel ?_ hb6)); done) | (with_reducible refine At.c1' (t := 39) (x := .int .i64 xd) (y := .int .i64 xk) (z := .string xn) ?_; (repeat (first | with_reducible assumption | with_reducible apply At.drw | with_reducible refine At.al ?_ _ | with_reducible refine At.bel ?_ hb6)); done) | (with_reducible refine At.c2' (t := 39) (x := .int .i64 xd) (y := .int .i64 xk) (z := .string xn) ?_; (repeat (first | with_reducible assumption | with_reducible apply At.drw | with_reducible refine At.al ?_ _ | with_reducible refine At.bel ?_ hb6)); done) )); (focus (first | (with_reducible refine At.c0' (t := 39) (x := .int .i64 xd) (y := .int .i64 xk) (z := .string xn) ?_; (repeat (first | with_reducible assumption | with_reducible apply At.drw | with_reducible refine At.al ?_ _ | with_reducible refine At.bel ?_ hb6)); done) | (with_reducible refine At.c1' (t := 39) (x := .int .i64 xd) (y := .int .i64 xk) (z := .string xn) ?_; (repeat (first | with_reducible assumption | with_reducible apply At.drw | with_reducible refine At.al ?_ _ | with_reducible refine At.bel ?_ hb6)); done) | (with_reducible refine At.c2' (t := 39) (x := .int .i64 xd) (y := .int .i64 xk) (z := .string xn) ?_; (repeat (first | with_reducible assumption | with_reducible apply At.drw | with_reducible refine At.al ?_ _ | with_reducible refine At.bel ?_ hb6)); done) )); (focus (first | (with_reducible refine At.c0' (t := 39) (x := .int .i64 xd) (y := .int .i64 xk) (z := .string xn) ?_; (repeat (first | with_reducible assumption | with_reducible apply At.drw | with_reducible refine At.al ?_ _ | with_reducible refine At.bel ?_ hb6)); done) | (with_reducible refine At.c1' (t := 39) (x := .int .i64 xd) (y := .int .i64 xk) (z := .string xn) ?_; (repeat (first | with_reducible assumption | with_reducible apply At.drw | with_reducible refine At.al ?_ _ | with_reducible refine At.bel ?_ hb6)); done) | (with_reducible refine At.c2' (t := 39) (x := .int .i64 xd) (y := .int .i64 xk) (z := .string xn) ?_; (repeat (first | with_reducible assumption | with_reducible apply At.drw | with_reducible refine At.al ?_ _ | with_reducible refine At.bel ?_ hb6)); done) ))) | go_keep)
                    clear hK K
                    (try simp only [Act.put, List.setIfInBounds_toArray, List.set_cons_zero, List.set_cons_succ])
                    refine wpAnyH_ready (rs := [23]) (by kernel_rfl) (by simp) ?_
                    refine AllReadyH.cons (i := 23) (by simp only [List.getElem?_toArray, List.getElem?_cons_succ, List.getElem?_cons_zero]; rfl) (fun K hK => ?_) ?_
                    · go_simp
                      (go_at_call 23; refine (jvalid_own ho9.out (by have := hll.out; simp; omega) hnml.out).mono ?_; rintro e w10 ⟨rfl, hb6⟩; rw [hvb.out])
                      (try go_wp2_with fail)
                      refine hK.out _ _ ?_ (fun hHeld => ?_)
                      · (try dsimp only); (first | ((try go_split_ands); refine ⟨?_, ?_, ?_, ?_, ?_⟩; (focus ((repeat (first | with_reducible assumption | with_reducible exact Below.refl _ _ | with_reducible refine below_al ?_ _ | with_reducible refine below_drew ?_ | with_reducible refine below_drewN ?_ _ | with_reducible refine below_then ?_ hb6)); done)); (focus ((repeat (first | with_reducible assumption | with_reducible apply At.drw | with_reducible refine At.al ?_ _ | with_reducible refine At.bel ?_ hb6)); done)); (focus (first | (with_reducible refine At.c0' (t := 39) (x := .int .i64 xd) (y := .int .i64 xk) (z := .string xn) ?_; (repeat (first | with_reducible assumption | with_reducible apply At.drw | with_reducible refine At.al ?_ _ | with_reducible refine At.bel ?_ hb6)); done) | (with_reducible refine At.c1' (t := 39) (x := .int .i64 xd) (y := .int .i64 xk) (z := .string xn) ?_; (repeat (first | with_reducible assumption | with_reducible apply At.drw | with_reducible refine At.al ?_ _ | with_reducible refine At.bel ?_ hb6)); done) | (with_reducible refine At.c2' (t := 39) (x := .int .i64 xd) (y := .int .i64 xk) (z := .string xn) ?_; (repeat (first | with_reducible assumption | with_reducible apply At.drw | with_reducible refine At.al ?_ _ | with_reducible refine At.bel ?_ hb6)); done) )); (focus (first | (with_reducible refine At.c0' (t := 39) (x := .int .i64 xd) (y := .int .i64 xk) (z := .string xn) ?_; (repeat (first | with_reducible assumption | with_reducible apply At.drw | with_reducible refine At.al ?_ _ | with_reducible refine At.bel ?_ hb6)); done) | (with_reducible refine At.c1' (t := 39) (x := .int .i64 xd) (y := .int .i64 xk) (z := .string xn) ?_; (repeat (first | with_reducible assumption | with_reducible apply At.drw | with_reducible refine At.al ?_ _ | with_reducible refine At.bel ?_ hb6)); done) | (with_reducible refine At.c2' (t := 39) (x := .int .i64 xd) (y := .int .i64 xk) (z := .string xn) ?_; (repeat (first | with_reducible assumption | with_reducible apply At.drw | with_reducible refine At.al ?_ _ | with_reducible refine At.bel ?_ hb6)); done) )); (focus (first | (with_reducible refine At.c0' (t := 39) (x := .int .i64 xd) (y := .int .i64 xk) (z := .string xn) ?_; (repeat (first | with_reducible assumption | with_reducible apply At.drw | with_reducible refine At.al ?_ _ | with_reducible refine At.bel ?_ hb6)); done) | (with_reducible refine At.c1' (t := 39) (x := .int .i64 xd) (y := .int .i64 xk) (z := .string xn) ?_; (repeat (first | with_reducible assumption | with_reducible apply At.drw | with_reducible refine At.al ?_ _ | with_reducible refine At.bel ?_ hb6)); done) | (with_reducible refine At.c2' (t := 39) (x := .int .i64 xd) (y := .int .i64 xk) (z := .string xn) ?_; (repeat (first | with_reducible assumption | with_reducible apply At.drw | with_reducible refine At.al ?_ _ | with_reducible refine At.bel ?_ hb6)); done) ))) | go_keep)
                      clear hK K
                      (try simp only [Act.put, List.setIfInBounds_toArray, List.set_cons_zero, List.set_cons_succ])
                      refine wpAnyH_take (i := 24) (v := ?_) (by simp only [List.getElem?_toArray, List.getElem?_cons_succ, List.getElem?_cons_zero]; rfl) (by kernel_rfl) (by kernel_rfl) (by kernel_rfl) (fun _ _ _ h => h) (Or.inl ⟨by rfl, ?_⟩) (by assumption) ?_
                      rotate_left
                      focus (intro w hSw; (try dsimp only at hSw); go_simp; first | done | with_reducible rfl)
                      (try simp only [Act.put, List.setIfInBounds_toArray, List.set_cons_zero, List.set_cons_succ])
                      refine wpAnyH_take (i := 25) (v := ?_) (by simp only [List.getElem?_toArray, List.getElem?_cons_succ, List.getElem?_cons_zero]; rfl) (by kernel_rfl) (by kernel_rfl) (by kernel_rfl) (fun _ _ _ h => h) (Or.inl ⟨by rfl, ?_⟩) (by assumption) ?_
                      rotate_left
                      focus (intro w hSw; (try dsimp only at hSw); go_simp; first | done | with_reducible rfl)
                      (try simp only [Act.put, List.setIfInBounds_toArray, List.set_cons_zero, List.set_cons_succ])
                      refine wpAnyH_done (by kernel_rfl) ?_ _
                      refine NoPanic.normal ?_
                      go_wp2_with fail
                      go_meet
                      exact ⟨by first | rfl | (rw [hq.out]), (by go_split_ands; repeat (first | with_reducible assumption | with_reducible exact Below.refl _ _ | with_reducible refine below_al ?_ _ | with_reducible refine below_drew ?_ | with_reducible refine below_drewN ?_ _ | with_reducible refine below_then ?_ hb6))⟩
                    exact AllReadyH.nil
                  exact AllReadyH.nil
                exact AllReadyH.nil
              refine AllReadyH.cons (i := 21) (by simp only [List.getElem?_toArray, List.getElem?_cons_succ, List.getElem?_cons_zero]; rfl) (fun K hK => ?_) ?_
              · go_simp
                refine hK.out _ _ ?_ (fun hHeld => ?_)
                · (try dsimp only); (first | ((try go_split_ands); refine ⟨?_, ?_, ?_, ?_, ?_⟩; (focus ((repeat (first | with_reducible assumption | with_reducible exact Below.refl _ _ | with_reducible refine below_al ?_ _ | with_reducible refine below_drew ?_ | with_reducible refine below_drewN ?_ _ | with_reducible refine below_then ?_ hb6)); done)); (focus ((repeat (first | with_reducible assumption | with_reducible apply At.drw | with_reducible refine At.al ?_ _ | with_reducible refine At.bel ?_ hb6)); done)); (focus (first | (with_reducible refine At.c0' (t := 39) (x := .int .i64 xd) (y := .int .i64 xk) (z := .string xn) ?_; (repeat (first | with_reducible assumption | with_reducible apply At.drw | with_reducible refine At.al ?_ _ | with_reducible refine At.bel ?_ hb6)); done) | (with_reducible refine At.c1' (t := 39) (x := .int .i64 xd) (y := .int .i64 xk) (z := .string xn) ?_; (repeat (first | with_reducible assumption | with_reducible apply At.drw | with_reducible refine At.al ?_ _ | with_reducible refine At.bel ?_ hb6)); done) | (with_reducible refine At.c2' (t := 39) (x := .int .i64 xd) (y := .int .i64 xk) (z := .string xn) ?_; (repeat (first | with_reducible assumption | with_reducible apply At.drw | with_reducible refine At.al ?_ _ | with_reducible refine At.bel ?_ hb6)); done) )); (focus (first | (with_reducible refine At.c0' (t := 39) (x := .int .i64 xd) (y := .int .i64 xk) (z := .string xn) ?_; (repeat (first | with_reducible assumption | with_reducible apply At.drw | with_reducible refine At.al ?_ _ | with_reducible refine At.bel ?_ hb6)); done) | (with_reducible refine At.c1' (t := 39) (x := .int .i64 xd) (y := .int .i64 xk) (z := .string xn) ?_; (repeat (first | with_reducible assumption | with_reducible apply At.drw | with_reducible refine At.al ?_ _ | with_reducible refine At.bel ?_ hb6)); done) | (with_reducible refine At.c2' (t := 39) (x := .int .i64 xd) (y := .int .i64 xk) (z := .string xn) ?_; (repeat (first | with_reducible assumption | with_reducible apply At.drw | with_reducible refine At.al ?_ _ | with_reducible refine At.bel ?_ hb6)); done) )); (focus (first | (with_reducible refine At.c0' (t := 39) (x := .int .i64 xd) (y := .int .i64 xk) (z := .string xn) ?_; (repeat (first | with_reducible assumption | with_reducible apply At.drw | with_reducible refine At.al ?_ _ | with_reducible refine At.bel ?_ hb6)); done) | (with_reducible refine At.c1' (t := 39) (x := .int .i64 xd) (y := .int .i64 xk) (z := .string xn) ?_; (repeat (first | with_reducible assumption | with_reducible apply At.drw | with_reducible refine At.al ?_ _ | with_reducible refine At.bel ?_ hb6)); done) | (with_reducible refine At.c2' (t := 39) (x := .int .i64 xd) (y := .int .i64 xk) (z := .string xn) ?_; (repeat (first | with_reducible assumption | with_reducible apply At.drw | with_reducible refine At.al ?_ _ | with_reducible refine At.bel ?_ hb6)); done) ))) | go_keep)
                clear hK K
                (try simp only [Act.put, List.setIfInBounds_toArray, List.set_cons_zero, List.set_cons_succ])
                refine wpAnyH_ready (rs := [19]) (by kernel_rfl) (by simp) ?_
                refine AllReadyH.cons (i := 19) (by simp only [List.getElem?_toArray, List.getElem?_cons_succ, List.getElem?_cons_zero]; rfl) (fun K hK => ?_) ?_
                · go_simp
                  (go_at_call 27; refine (cloneE_own (ownsRow_below ho.out (by go_split_ands; repeat (first | with_reducible assumption | with_reducible exact Below.refl _ _ | with_reducible refine below_al ?_ _ | with_reducible refine below_drew ?_ | with_reducible refine below_drewN ?_ _ | with_reducible refine below_then ?_ hb6))) (by have := hll.out; omega)).mono ?_; rintro e w8 ⟨⟨cy, cc, rfl, hcl0⟩, hb6⟩; have hcl := own_weak (base' := W3.heap.size) hcl0.out (Below.size (B := W3.heap.size) (w := W3) (by go_split_ands; repeat (first | with_reducible assumption | with_reducible exact Below.refl _ _ | with_reducible refine below_al ?_ _ | with_reducible refine below_drew ?_ | with_reducible refine below_drewN ?_ _ | with_reducible refine below_then ?_ hb6))))
                  have kb : At w8 w6.heap.size 39 #[.int .i64 xd, .int .i64 xk, .string xn] := At.bel (At.new' rfl) hb6
                  (try go_wp2_with fail)
                  refine hK.out _ _ ?_ (fun hHeld => ?_)
                  · (try dsimp only); (first | ((try go_split_ands); refine ⟨?_, ?_, ?_, ?_, ?_⟩; (focus ((repeat (first | with_reducible assumption | with_reducible exact Below.refl _ _ | with_reducible refine below_al ?_ _ | with_reducible refine below_drew ?_ | with_reducible refine below_drewN ?_ _ | with_reducible refine below_then ?_ hb6)); done)); (focus ((repeat (first | with_reducible assumption | with_reducible apply At.drw | with_reducible refine At.al ?_ _ | with_reducible refine At.bel ?_ hb6)); done)); (focus (first | (with_reducible refine At.c0' (t := 39) (x := .int .i64 xd) (y := .int .i64 xk) (z := .string xn) ?_; (repeat (first | with_reducible assumption | with_reducible apply At.drw | with_reducible refine At.al ?_ _ | with_reducible refine At.bel ?_ hb6)); done) | (with_reducible refine At.c1' (t := 39) (x := .int .i64 xd) (y := .int .i64 xk) (z := .string xn) ?_; (repeat (first | with_reducible assumption | with_reducible apply At.drw | with_reducible refine At.al ?_ _ | with_reducible refine At.bel ?_ hb6)); done) | (with_reducible refine At.c2' (t := 39) (x := .int .i64 xd) (y := .int .i64 xk) (z := .string xn) ?_; (repeat (first | with_reducible assumption | with_reducible apply At.drw | with_reducible refine At.al ?_ _ | with_reducible refine At.bel ?_ hb6)); done) )); (focus (first | (with_reducible refine At.c0' (t := 39) (x := .int .i64 xd) (y := .int .i64 xk) (z := .string xn) ?_; (repeat (first | with_reducible assumption | with_reducible apply At.drw | with_reducible refine At.al ?_ _ | with_reducible refine At.bel ?_ hb6)); done) | (with_reducible refine At.c1' (t := 39) (x := .int .i64 xd) (y := .int .i64 xk) (z := .string xn) ?_; (repeat (first | with_reducible assumption | with_reducible apply At.drw | with_reducible refine At.al ?_ _ | with_reducible refine At.bel ?_ hb6)); done) | (with_reducible refine At.c2' (t := 39) (x := .int .i64 xd) (y := .int .i64 xk) (z := .string xn) ?_; (repeat (first | with_reducible assumption | with_reducible apply At.drw | with_reducible refine At.al ?_ _ | with_reducible refine At.bel ?_ hb6)); done) )); (focus (first | (with_reducible refine At.c0' (t := 39) (x := .int .i64 xd) (y := .int .i64 xk) (z := .string xn) ?_; (repeat (first | with_reducible assumption | with_reducible apply At.drw | with_reducible refine At.al ?_ _ | with_reducible refine At.bel ?_ hb6)); done) | (with_reducible refine At.c1' (t := 39) (x := .int .i64 xd) (y := .int .i64 xk) (z := .string xn) ?_; (repeat (first | with_reducible assumption | with_reducible apply At.drw | with_reducible refine At.al ?_ _ | with_reducible refine At.bel ?_ hb6)); done) | (with_reducible refine At.c2' (t := 39) (x := .int .i64 xd) (y := .int .i64 xk) (z := .string xn) ?_; (repeat (first | with_reducible assumption | with_reducible apply At.drw | with_reducible refine At.al ?_ _ | with_reducible refine At.bel ?_ hb6)); done) ))) | go_keep)
                  clear hK K
                  (try simp only [Act.put, List.setIfInBounds_toArray, List.set_cons_zero, List.set_cons_succ])
                  refine wpAnyH_ready (rs := [22]) (by kernel_rfl) (by simp) ?_
                  refine AllReadyH.cons (i := 22) (by simp only [List.getElem?_toArray, List.getElem?_cons_succ, List.getElem?_cons_zero]; rfl) (fun K hK => ?_) ?_
                  · (refine step_append_w _ rfl (.tmp 42) (.tmp 44) 30 rfl W3.heap.size 39 i0 (.agg #[.int .i64 0, .int .i64 0, .string ⟨#[]⟩]) 3 32 Tryz.underlying30 hi hz0 hz1 hz2 rfl (by decide) (.slice cy l.length cc) l.length (l.flatMap encE) (by first | rfl | (simp [Act.eval]; done)) hcl ⟨w6.heap.size, 0, none⟩ 1 1 [.int .i64 xd, .int .i64 xk, .string xn] (by first | rfl | (simp [Act.eval]; done)) rfl (three_new kb) (by intro u hu; simp at hu; rcases hu with rfl | rfl | rfl <;> rfl) (by have := hll.out; unfold maxLen; omega) (by have := hll.out; omega) (Below.size (B := W3.heap.size) (w := W3) (by go_split_ands; repeat (first | with_reducible assumption | with_reducible exact Below.refl _ _ | with_reducible refine below_al ?_ _ | with_reducible refine below_drew ?_ | with_reducible refine below_drewN ?_ _ | with_reducible refine below_then ?_ hb6))) ?_; intro a5 c5 w9 ho9 hg9 hloc9; have hB9 : Below W3.heap.size W3 w9 := below_grown (by go_split_ands; repeat (first | with_reducible assumption | with_reducible exact Below.refl _ _ | with_reducible refine below_al ?_ _ | with_reducible refine below_drew ?_ | with_reducible refine below_drewN ?_ _ | with_reducible refine below_then ?_ hb6)) hg9 (fun j hj => (own_lt hcl hj).2); have kx9 : At w9 wr2.heap.size 39 #[.int .i64 xd, .int .i64 xk, .string xn] := At.bel kx hB9; replace ho9 := Lib.hid (row_push ho9); clear hg9 hloc9)
                    refine hK.out _ _ ?_ (fun hHeld => ?_)
                    · (try dsimp only); (first | ((try go_split_ands); refine ⟨?_, ?_, ?_, ?_, ?_⟩; (focus ((repeat (first | with_reducible assumption | with_reducible exact Below.refl _ _ | with_reducible refine below_al ?_ _ | with_reducible refine below_drew ?_ | with_reducible refine below_drewN ?_ _ | with_reducible refine below_then ?_ hb6)); done)); (focus ((repeat (first | with_reducible assumption | with_reducible apply At.drw | with_reducible refine At.al ?_ _ | with_reducible refine At.bel ?_ hb6)); done)); (focus (first | (with_reducible refine At.c0' (t := 39) (x := .int .i64 xd) (y := .int .i64 xk) (z := .string xn) ?_; (repeat (first | with_reducible assumption | with_reducible apply At.drw | with_reducible refine At.al ?_ _ | with_reducible refine At.bel ?_ hb6)); done) | (with_reducible refine At.c1' (t := 39) (x := .int .i64 xd) (y := .int .i64 xk) (z := .string xn) ?_; (repeat (first | with_reducible assumption | with_reducible apply At.drw | with_reducible refine At.al ?_ _ | with_reducible refine At.bel ?_ hb6)); done) | (with_reducible refine At.c2' (t := 39) (x := .int .i64 xd) (y := .int .i64 xk) (z := .string xn) ?_; (repeat (first | with_reducible assumption | with_reducible apply At.drw | with_reducible refine At.al ?_ _ | with_reducible refine At.bel ?_ hb6)); done) )); (focus (first | (with_reducible refine At.c0' (t := 39) (x := .int .i64 xd) (y := .int .i64 xk) (z := .string xn) ?_; (repeat (first | with_reducible assumption | with_reducible apply At.drw | with_reducible refine At.al ?_ _ | with_reducible refine At.bel ?_ hb6)); done) | (with_reducible refine At.c1' (t := 39) (x := .int .i64 xd) (y := .int .i64 xk) (z := .string xn) ?_; (repeat (first | with_reducible assumption | with_reducible apply At.drw | with_reducible refine At.al ?_ _ | with_reducible refine At.bel ?_ hb6)); done) | (with_reducible refine At.c2' (t := 39) (x := .int .i64 xd) (y := .int .i64 xk) (z := .string xn) ?_; (repeat (first | with_reducible assumption | with_reducible apply At.drw | with_reducible refine At.al ?_ _ | with_reducible refine At.bel ?_ hb6)); done) )); (focus (first | (with_reducible refine At.c0' (t := 39) (x := .int .i64 xd) (y := .int .i64 xk) (z := .string xn) ?_; (repeat (first | with_reducible assumption | with_reducible apply At.drw | with_reducible refine At.al ?_ _ | with_reducible refine At.bel ?_ hb6)); done) | (with_reducible refine At.c1' (t := 39) (x := .int .i64 xd) (y := .int .i64 xk) (z := .string xn) ?_; (repeat (first | with_reducible assumption | with_reducible apply At.drw | with_reducible refine At.al ?_ _ | with_reducible refine At.bel ?_ hb6)); done) | (with_reducible refine At.c2' (t := 39) (x := .int .i64 xd) (y := .int .i64 xk) (z := .string xn) ?_; (repeat (first | with_reducible assumption | with_reducible apply At.drw | with_reducible refine At.al ?_ _ | with_reducible refine At.bel ?_ hb6)); done) ))) | go_keep)
                    clear hK K
                    (try simp only [Act.put, List.setIfInBounds_toArray, List.set_cons_zero, List.set_cons_succ])
                    refine wpAnyH_ready (rs := [23]) (by kernel_rfl) (by simp) ?_
                    refine AllReadyH.cons (i := 23) (by simp only [List.getElem?_toArray, List.getElem?_cons_succ, List.getElem?_cons_zero]; rfl) (fun K hK => ?_) ?_
                    · go_simp
                      (go_at_call 23; refine (jvalid_own ho9.out (by have := hll.out; simp; omega) hnml.out).mono ?_; rintro e w10 ⟨rfl, hb6⟩; rw [hvb.out])
                      (try go_wp2_with fail)
                      refine hK.out _ _ ?_ (fun hHeld => ?_)
                      · (try dsimp only); (first | ((try go_split_ands); refine ⟨?_, ?_, ?_, ?_, ?_⟩; (focus ((repeat (first | with_reducible assumption | with_reducible exact Below.refl _ _ | with_reducible refine below_al ?_ _ | with_reducible refine below_drew ?_ | with_reducible refine below_drewN ?_ _ | with_reducible refine below_then ?_ hb6)); done)); (focus ((repeat (first | with_reducible assumption | with_reducible apply At.drw | with_reducible refine At.al ?_ _ | with_reducible refine At.bel ?_ hb6)); done)); (focus (first | (with_reducible refine At.c0' (t := 39) (x := .int .i64 xd) (y := .int .i64 xk) (z := .string xn) ?_; (repeat (first | with_reducible assumption | with_reducible apply At.drw | with_reducible refine At.al ?_ _ | with_reducible refine At.bel ?_ hb6)); done) | (with_reducible refine At.c1' (t := 39) (x := .int .i64 xd) (y := .int .i64 xk) (z := .string xn) ?_; (repeat (first | with_reducible assumption | with_reducible apply At.drw | with_reducible refine At.al ?_ _ | with_reducible refine At.bel ?_ hb6)); done) | (with_reducible refine At.c2' (t := 39) (x := .int .i64 xd) (y := .int .i64 xk) (z := .string xn) ?_; (repeat (first | with_reducible assumption | with_reducible apply At.drw | with_reducible refine At.al ?_ _ | with_reducible refine At.bel ?_ hb6)); done) )); (focus (first | (with_reducible refine At.c0' (t := 39) (x := .int .i64 xd) (y := .int .i64 xk) (z := .string xn) ?_; (repeat (first | with_reducible assumption | with_reducible apply At.drw | with_reducible refine At.al ?_ _ | with_reducible refine At.bel ?_ hb6)); done) | (with_reducible refine At.c1' (t := 39) (x := .int .i64 xd) (y := .int .i64 xk) (z := .string xn) ?_; (repeat (first | with_reducible assumption | with_reducible apply At.drw | with_reducible refine At.al ?_ _ | with_reducible refine At.bel ?_ hb6)); done) | (with_reducible refine At.c2' (t := 39) (x := .int .i64 xd) (y := .int .i64 xk) (z := .string xn) ?_; (repeat (first | with_reducible assumption | with_reducible apply At.drw | with_reducible refine At.al ?_ _ | with_reducible refine At.bel ?_ hb6)); done) )); (focus (first | (with_reducible refine At.c0' (t := 39) (x := .int .i64 xd) (y := .int .i64 xk) (z := .string xn) ?_; (repeat (first | with_reducible assumption | with_reducible apply At.drw | with_reducible refine At.al ?_ _ | with_reducible refine At.bel ?_ hb6)); done) | (with_reducible refine At.c1' (t := 39) (x := .int .i64 xd) (y := .int .i64 xk) (z := .string xn) ?_; (repeat (first | with_reducible assumption | with_reducible apply At.drw | with_reducible refine At.al ?_ _ | with_reducible refine At.bel ?_ hb6)); done) | (with_reducible refine At.c2' (t := 39) (x := .int .i64 xd) (y := .int .i64 xk) (z := .string xn) ?_; (repeat (first | with_reducible assumption | with_reducible apply At.drw | with_reducible refine At.al ?_ _ | with_reducible refine At.bel ?_ hb6)); done) ))) | go_keep)
                      clear hK K
                      (try simp only [Act.put, List.setIfInBounds_toArray, List.set_cons_zero, List.set_cons_succ])
                      refine wpAnyH_take (i := 24) (v := ?_) (by simp only [List.getElem?_toArray, List.getElem?_cons_succ, List.getElem?_cons_zero]; rfl) (by kernel_rfl) (by kernel_rfl) (by kernel_rfl) (fun _ _ _ h => h) (Or.inl ⟨by rfl, ?_⟩) (by assumption) ?_
                      rotate_left
                      focus (intro w hSw; (try dsimp only at hSw); go_simp; first | done | with_reducible rfl)
                      (try simp only [Act.put, List.setIfInBounds_toArray, List.set_cons_zero, List.set_cons_succ])
                      refine wpAnyH_take (i := 25) (v := ?_) (by simp only [List.getElem?_toArray, List.getElem?_cons_succ, List.getElem?_cons_zero]; rfl) (by kernel_rfl) (by kernel_rfl) (by kernel_rfl) (fun _ _ _ h => h) (Or.inl ⟨by rfl, ?_⟩) (by assumption) ?_
                      rotate_left
                      focus (intro w hSw; (try dsimp only at hSw); go_simp; first | done | with_reducible rfl)
                      (try simp only [Act.put, List.setIfInBounds_toArray, List.set_cons_zero, List.set_cons_succ])
                      refine wpAnyH_done (by kernel_rfl) ?_ _
                      refine NoPanic.normal ?_
                      go_wp2_with fail
                      go_meet
                      exact ⟨by first | rfl | (rw [hq.out]), (by go_split_ands; repeat (first | with_reducible assumption | with_reducible exact Below.refl _ _ | with_reducible refine below_al ?_ _ | with_reducible refine below_drew ?_ | with_reducible refine below_drewN ?_ _ | with_reducible refine below_then ?_ hb6))⟩
                    exact AllReadyH.nil
                  exact AllReadyH.nil
                exact AllReadyH.nil
              exact AllReadyH.nil
            exact AllReadyH.nil
          exact AllReadyH.nil
    case rest =>
      obtain ⟨rfl, hbc⟩ := hcut
      have kxc := At.bel kx hbc
      replace ho := Lib.hid (World.ownsRow_up ho.out hbc)
      have HBc := below_then HB3 hbc
      clear hbc kx HB3
      obtain ⟨fu, rfl⟩ : ∃ k, fu = k + 1 := ⟨fu - 1, by have := hg.out.2.1; omega⟩
      cases hnx : nextJ (b.take at_) l (b.drop at_) with
      | error er =>
        rw [hnx] at hq0
        have hq := hq0.out
        dsimp only at hq
        subst hq
        have hE : Hid (G = (l, at_, er)) := Lib.hid (by
          have h1 := hg.out.1
          rw [goodF_stop hbl'.out hnx] at h1
          exact h1.symm)
        clear hnx hq0 q1 q2
        go_wp2_with fail
        exact bodyPost_ret (v := .tuple #[yv, .int .i64 (at_ : Int)]) (by simp [results, Tryz.results25, go_sem]) rfl ⟨⟨yv, by rw [hE.out], by rw [hE.out]; exact ho⟩, HBc⟩
      | ok r =>
        obtain ⟨x, m⟩ := r
        rw [hnx] at hq0
        have hq := hq0.out
        dsimp only at hq
        subst hq
        obtain ⟨t, hent⟩ := nextJ_ent hnx
        obtain ⟨-, rfl, rfl, rfl⟩ := q1.out _ _ _ hent
        have hml := (rec_eq_iff (p := b.take at_) hent).2
        obtain ⟨hm1, _, hwk, hv2⟩ := nextJ_ok hnx
        have hwk2 := hwk.bd.2
        have hmp := rec_pos (b.take at_) ⟨xd, xk, xn⟩
        rw [← hm1] at hmp
        rw [List.length_drop] at hml
        have hG2 : Hid (goodF fu b (at_ + m) (l ++ [⟨xd, xk, xn⟩]) = G) := Lib.hid (by rw [← goodF_go hbl'.out hnx]; exact hg.out.1)
        obtain ⟨e, he⟩ : ∃ e, at_ + m = e := ⟨_, rfl⟩
        have hen : e ≤ n := by have := hn0.out; omega
        have w1 : IntKind.i64.wrap ((at_ : Int) + (m : Int)) = (e : Int) := by rw [IntWalk.i64_in _ (by omega)]; omega
        have hl2 : Hid ((l ++ [(⟨xd, xk, xn⟩ : Ent)]).length ≤ 1000) := Lib.hid (by
          unfold logV at hv2
          simp only [Bool.and_eq_true, decide_eq_true_eq] at hv2
          exact hv2.1.1)
        have hll : Hid (l.length ≤ 1000) := Lib.hid hg.out.2.2.1
        have hnml : Hid (∀ x ∈ l ++ [(⟨xd, xk, xn⟩ : Ent)], x.name.size ≤ 10000) := Lib.hid (by
          intro y hy
          rcases List.mem_append.1 hy with q | q
          · exact hg.out.2.2.2 y q
          · rw [List.mem_singleton] at q; rw [q]; dsimp only at hwk2 ⊢; omega)
        rw [he] at hG2
        have hlt2 : at_ < e := by omega
        replace he := Lib.hid he
        obtain ⟨x0, x1, x2⟩ := kxc.three
        clear hnx hq0 q1 q2 q3 hent hml hm1 hwk hwk2 hv2 hmp
        go_wp2_with (at_builtin; refine wpList_append_own_at _ rfl _ _ 30 rfl w.heap.size 39 i0 (.agg #[.int .i64 0, .int .i64 0, .string ⟨#[]⟩]) 3 32 Tryz.underlying30 hi hz0 hz1 hz2 rfl (by decide) _ _ _ rfl (World.ownsRow.alloc ho.out _) ⟨wc.heap.size, 0, none⟩ 1 1 [.int .i64 xd, .int .i64 xk, .string xn] rfl rfl (three_new (At.new _ _ _)) (by intro u hu; simp at hu; rcases hu with rfl | rfl | rfl <;> rfl) (by have := hll.out; unfold maxLen; omega) (by have := hll.out; omega) (by have := HBc.size; simp; omega) ?_)
        intro v' w5 ho1 hg1 hnil hloc
        have hg2 : wc.grownBy w5 yv.ownBlock := (World.grownBy_alloc _ _ _).trans hg1
        have hb5 : Below w.heap.size w w5 := HBc.grown hg2 (by have := HBc.size; omega) (fun j hj => (own_lt ho.out hj).2)
        have ho2 : Hid (w5.ownsRow w.heap.size 39 3 v' (l ++ [(⟨xd, xk, xn⟩ : Ent)]).length ((l ++ [(⟨xd, xk, xn⟩ : Ent)]).flatMap encE)) := Lib.hid (by
          rw [show (l ++ [(⟨xd, xk, xn⟩ : Ent)]).length = l.length + 1 by simp, List.flatMap_append, List.flatMap_singleton]
          exact ho1)
        clear hg1 hg2 hnil hloc ho1 x0 x1 x2
        go_wp2_with fail
        go_roundg (n - e)
        case measure => have := hr.out; omega
        case rel => exact ⟨e, l ++ [⟨xd, xk, xn⟩], v', fu, rfl, hen, rfl, Lib.hid rfl, Lib.hid ⟨hG2.out, by have := hg.out.2.1; omega, hl2.out, hnml.out⟩, hb5, ho2⟩
end Go.Proofs.YtcokobdffbhpeaaGreatDoor
