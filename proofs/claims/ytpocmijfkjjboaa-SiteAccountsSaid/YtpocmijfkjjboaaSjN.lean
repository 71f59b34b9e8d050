/- SiteAccounts: what its walk reads of a site. -/
import Derived.Test.YtpocmijfkjjboaaSjH
import Derived.Test.YtpocmijfkjjboaaSjF
import Derived.Test.YtpocmijfkjjboaaSiS
set_option linter.unusedVariables false
namespace Go.Proofs.Ytpocmijfkjjboaa
open Go.ChangeShapes Go.WideShapes Go.ChangeAt Go.RowKit

section
variable {B X : Nat} {u : World} {g : Nat} {s : St}
theorem one_account (hok : s.ok) (hd : One B X u g s) : Calls Try.prog 14 #[.pointer (some ⟨g, 0, none⟩)] u fun e w' => e = .returned (.tuple #[.int .i64 (s.at_.count 0 : Nat), .int .i64 (s.at_.count 1 : Nat), .int .i64 (s.at_.count 2 : Nat)]) ∧ Below u.heap.size u w' := by
  obtain ⟨p, h, _⟩ := hd
  exact account_any s hok g p u h
theorem one_missing (hok : s.ok) (hd : One B X u g s) : Calls Try.prog 15 #[.pointer (some ⟨g, 0, none⟩)] u fun e w' => (∃ a c, e = .returned (.slice a (missS s.tags s.at_).length c) ∧ w'.ownsRow u.heap.size 9 1 (.slice a (missS s.tags s.at_).length c) (missS s.tags s.at_).length ((missS s.tags s.at_).flatMap encS)) ∧ Below u.heap.size u w' := by
  obtain ⟨p, h, _⟩ := hd
  refine (missing_any s hok g p u h).mono fun e w' ⟨⟨v, e1, e2⟩, e3⟩ => ?_
  obtain ⟨a, c, rfl⟩ := own_slice e2.out
  exact ⟨⟨a, c, e1, e2.out⟩, e3⟩
theorem one_open (hok : s.ok) (hd : One B X u g s) : Calls Try.prog 16 #[.pointer (some ⟨g, 0, none⟩)] u fun e w' => (∃ a c, e = .returned (.slice a s.open_.length c) ∧ w'.ownsRow u.heap.size 9 1 (.slice a s.open_.length c) s.open_.length (s.open_.flatMap encS)) ∧ Below u.heap.size u w' := by
  obtain ⟨p, h, _⟩ := hd
  refine (open_any s hok g p u h).mono fun e w' ⟨⟨v, e1, e2⟩, e3⟩ => ?_
  obtain ⟨a, c, rfl⟩ := own_slice e2.out
  exact ⟨⟨a, c, e1, e2.out⟩, e3⟩
theorem one_entries (hok : s.ok) (hd : One B X u g s) : Calls Try.prog 18 #[.pointer (some ⟨g, 0, none⟩)] u fun e w' => (∃ a c, e = .returned (.slice a s.kept.length c) ∧ w'.ownsRow u.heap.size 35 3 (.slice a s.kept.length c) s.kept.length (s.kept.flatMap encE)) ∧ Below u.heap.size u w' := by
  obtain ⟨p, h, _⟩ := hd
  refine (entries_any s hok g p u h).mono fun e w' ⟨⟨v, e1, e2⟩, e3⟩ => ?_
  obtain ⟨a, c, rfl⟩ := own_slice e2.out
  exact ⟨⟨a, c, e1, e2.out⟩, e3⟩
theorem one_ready (hok : s.ok) (hd : One B X u g s) : Calls Try.prog 17 #[.pointer (some ⟨g, 0, none⟩)] u fun e w' => e = .returned (.bool (readyS s)) ∧ Below u.heap.size u w' := by
  obtain ⟨p, h, _⟩ := hd
  exact ready_any s hok g p u h
end
theorem ready_is (s : St) : readyS s = (decide ((missS s.tags s.at_).length = 0) && decide (s.open_.length = 0)) := by
  unfold readyS
  rw [isEmpty_len, isEmpty_len]

theorem own_grown {w w' : World} {row : Option Nat} {base n : Nat} {e : TypeId} {sz : Nat} {v : Value} {xs : List Value} (h : w.ownsRow base e sz v n xs) (hg : w.grownBy w' row) (hr : ∀ b, row = some b → b < base) : w'.ownsRow base e sz v n xs :=
  ⟨h.1, h.2.imp id fun ⟨g, cap, cur, h1, h2, h3, h4⟩ => ⟨g, cap, cur, h1, h2, (hg.block g (Array.getElem?_eq_some_iff.1 h3).1 (fun hm => by have := hr g hm.symm; omega)).trans h3, h4⟩⟩
theorem isE_push {w : World} {base : Nat} {a : Option Addr} {c : Nat} {k k2 : List Ent} {xd xk : Int} {xn : ByteArray} (h : w.ownsRow base 35 3 (.slice a (k.length + 1) c) (k.length + 1) (k.flatMap encE ++ [.int .i64 xd, .int .i64 xk, .string xn])) (hk : k2 = k ++ [⟨xd, xk, xn⟩]) : IsE k2 (.slice a (k.length + 1) c) w := by
  subst hk
  have e : (k ++ [(⟨xd, xk, xn⟩ : Ent)]).length = k.length + 1 := by simp
  have h2 : w.ownsRow base 35 3 (.slice a (k.length + 1) c) (k ++ [(⟨xd, xk, xn⟩ : Ent)]).length ((k ++ [(⟨xd, xk, xn⟩ : Ent)]).flatMap encE) := by
    rw [e, List.flatMap_append, List.flatMap_singleton]
    exact h
  exact row_isE h2
theorem at_grown {w w' : World} {g : Nat} {t : TypeId} {cs : Array Value} {row : Option Nat} (h : At w g t cs) (hg : w.grownBy w' row) (hr : row ≠ some g) : At w' g t cs := (hg.block g h.lt (fun e => hr e.symm)).trans h
theorem below_grown {a w w' : World} {row : Option Nat} (h : Below a.heap.size a w) (hg : w.grownBy w' row) (hr : ∀ b, row = some b → a.heap.size ≤ b) : Below a.heap.size a w' :=
  ⟨hg.os.trans h.os, hg.tape.trans h.tape, hg.output.trans h.output, Nat.le_trans h.size hg.size, fun k hk => (hg.block k (Nat.lt_of_lt_of_le hk h.size) (fun e => by have := hr k e.symm; omega)).trans (h.block k hk)⟩
theorem step_append_w {P : Program} (w : World) {ops : Array Oper} {o : Oper} {a : Act} {K : Act → World → Prop} {Q : Exit → Act → World → Prop} {E : Prop} (hw : Region.wanted o (yielded ops a.tmps) = true) (s x : Operand) (t : TypeId)
    (ho : o.op = .call { callee := .builtin .append, args := #[s, x], argTypes := #[t, t] })
    (base : Nat) (e : TypeId) (i : TypeInfo) (z : Value) (size bytes : Nat) (ht : P.underlying t = some (.slice e)) (hi : P.info? e = some i) (hz : i.zero = some z)
    (hsize : i.size = size) (hby : i.bytes = bytes) (hzs : z.cells.size = size) (hsz : 0 < size)
    (v : Value) (n : Nat) (xs : List Value) (hs : a.eval s = v) (hown : w.ownsRow base e size v n xs)
    (ad : Addr) (m c : Nat) (news : List Value) (hx : a.eval x = .slice (some ad) m c) (hl : news.length = m * size) (hnews : ∀ j u, news[j]? = some u → w.cell? (ad.add j) = some u) (h1 : ∀ u ∈ news, u.oneCell' = true)
    (h63 : n + m ≤ maxLen) (hbytes : (n + m) * bytes ≤ 140737488355328) (hbase : base ≤ w.heap.size)
    (h : ∀ ao cap w', w'.ownsRow base e size (.slice ao (n + m) cap) (n + m) (xs ++ news) → w.grownBy w' v.ownBlock → ((Value.slice ao (n + m) cap).ownBlock = v.ownBlock ∨ (Value.slice ao (n + m) cap).ownBlock = some w.heap.size) → K (a.put o.dst (.slice ao (n + m) cap)) w') :
    if Region.wanted o (yielded ops a.tmps) = true then Oper.wp P o a w K Q else E := by
  rw [if_pos hw]
  obtain ⟨v', w', hr, h2, h3, _, h5⟩ := run_append_own_at (P := P) w base t o.type e i z size bytes ht hi hz hsize hby hzs hsz v n xs hown ad m c news hl hnews h1 h63 hbytes hbase
  obtain ⟨ao, cap, rfl⟩ := own_slice h2
  unfold Oper.wp execOp
  simp only [ho, resolve, invoke, builtin, Sem.run_bind, Sem.run_pure, Result.andThen_ok, List.map_toArray, List.map_cons, List.map_nil, hs, hx, hr]
  exact h ao cap w' h2 h3 h5
theorem own_lt {w : World} {base n : Nat} {e : TypeId} {sz : Nat} {v : Value} {xs : List Value} (h : w.ownsRow base e sz v n xs) {b : Nat} (hb : v.ownBlock = some b) : b < w.heap.size ∧ base ≤ b := by
  obtain ⟨_, ⟨q, _⟩ | ⟨g, cap, cur, q1, q2, q3, _⟩⟩ := h
  · rw [q] at hb; cases hb
  · rw [q1] at hb
    have hb : some g = some b := hb
    injection hb with hb
    subst hb
    exact ⟨(Array.getElem?_eq_some_iff.1 q3).1, q2⟩
theorem own_weak {w : World} {base base' n : Nat} {e : TypeId} {sz : Nat} {v : Value} {xs : List Value} (h : w.ownsRow base e sz v n xs) (hb : base' ≤ base) : w.ownsRow base' e sz v n xs :=
  ⟨h.1, h.2.imp id fun ⟨g, cap, cur, h1, h2, h3⟩ => ⟨g, cap, cur, h1, Nat.le_trans hb h2, h3⟩⟩
theorem own_frm {F : List (Option Nat)} {w w' : World} {base n : Nat} {e : TypeId} {sz : Nat} {v : Value} {xs : List Value} (h : w.ownsRow base e sz v n xs) (hf : Frm F w w') (hF : ∀ b, some b ∈ F → b < base) : w'.ownsRow base e sz v n xs :=
  ⟨h.1, h.2.imp id fun ⟨g, cap, cur, h1, h2, h3, h4⟩ => ⟨g, cap, cur, h1, h2, (hf.block g (Array.getElem?_eq_some_iff.1 h3).1 (fun hm => by have := hF g hm; omega)).trans h3, h4⟩⟩
theorem World.ownsRow_up {w w' : World} {base n : Nat} {e : TypeId} {sz : Nat} {v : Value} {xs : List Value} (h : w.ownsRow base e sz v n xs) (hb : Below w.heap.size w w') : w'.ownsRow base e sz v n xs :=
  ⟨h.1, h.2.imp id fun ⟨g, cap, cur, h1, h2, h3, h4⟩ => ⟨g, cap, cur, h1, h2, (hb.block g (Array.getElem?_eq_some_iff.1 h3).1).trans h3, h4⟩⟩

end Go.Proofs.Ytpocmijfkjjboaa
