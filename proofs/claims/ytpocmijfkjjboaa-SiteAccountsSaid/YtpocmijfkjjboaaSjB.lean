/- the reference's New at every slice. -/
import Derived.Test.YtpocmijfkjjboaaSjA
set_option linter.unusedVariables false
namespace Go.Proofs.Ytpocmijfkjjboaa
open Go.ChangeShapes Go.WideShapes Go.ChangeAt Go.RowKit

theorem RNres.drew {l : List Bun} {m : ByteArray} {w W : World} {g0 : Nat} (h : RNres l m w g0 W) : RNres l m w g0 W.drew := by
  obtain ⟨⟨g, p, e, h1, h2⟩, hb⟩ := h
  exact ⟨⟨g, p, e, h1.bel (drew_bel W), h2⟩, below_drew hb⟩
theorem step_append_none {P : Program} (w : World) {ops : Array Oper} {o : Oper} {a : Act} {K : Act → World → Prop} {Q : Exit → Act → World → Prop} {E : Prop} (hgd : o.guard = none) (s x : Operand) (t : TypeId)
    (ho : o.op = .call { callee := .builtin .append, args := #[s, x], argTypes := #[t, t] })
    (base : Nat) (e : TypeId) (i : TypeInfo) (size : Nat) (ht : P.underlying t = some (.slice e)) (hi : P.info? e = some i)
    (v : Value) (n : Nat) (xs : List Value) (hs : a.eval s = v) (hown : w.ownsRow base e size v n xs) (hx : a.eval x = .slice none 0 0)
    (h : K (a.put o.dst v) w) : if Region.wanted o (yielded ops a.tmps) = true then Oper.wp P o a w K Q else E := by
  have hw : Region.wanted o (yielded ops a.tmps) = true := by simp [Region.wanted, hgd]
  rw [if_pos hw]
  have hrun := run_append_owned_none (P := P) (w := w) base t o.type e i size ht hi v n xs hown
  unfold Oper.wp
  simp [execOp, ho, resolve, invoke, builtin, hs, hx, hrun, Result.andThen]
  exact h
set_option maxRecDepth 100000 in
set_option maxHeartbeats 2000000 in
theorem rnew_nil (m : ByteArray) (hm : m.size ≤ 60) (w : World) :
    Calls Try.prog 10 #[.slice none 0 0, .string m] w fun e w' => RNewPost [] m w e w' := by
  obtain ⟨j0, hj, hj0, hj1, hj2⟩ := info_parts infoBun
  have HV := Lib.hid (valid36_any [] none 0 (Nat.le_refl _) (by decide) (Lib.hid fun x hx => by cases hx) w (Lib.hid (RowAt.nil w none)))
  have HN := Lib.hid (fun u => refisName_any m (by omega) u)
  obtain ⟨b2, hb2⟩ : ∃ b2, nameB (by_ m) = b2 := ⟨_, rfl⟩
  have hnok : newOk [] m = (true && b2) := by unfold newOk; rw [hb2]; rfl
  rw [show bunV [] = true from rfl] at HV
  unfold RNewPost
  rw [hnok]
  rw [hb2] at HN
  clear hb2 hnok
  go_enter Try.func10, Try.ntmps10
  go_wp2_with fail
  refine (HV.out).mono ?_
  rintro e w1 ⟨rfl, HB⟩
  clear HV
  go_wp2_with fail
  refine (HN.out _).mono ?_
  rintro e w' ⟨rfl, rfl⟩
  clear HN
  cases b2
  · go_wp2_with fail
    exact bodyPost_ret (v := .tuple #[.pointer none, .int .i64 1]) (by simp [results, Try.results10, go_sem]) rfl ⟨fun _ => rfl, fun h => (by cases h), HB⟩
  have hmk : ∀ u, (Instr.makeSlice 39 (.int .i64 0) (.int .i64 0)).run Try.prog u = .ok (.slice (some ⟨u.heap.size, 0, none⟩) 0 0) (u.alloc (.cells (madeCells #[.int .i64 0] 0) 3)) := fun u => run_make_row' 39 3 (.int .i64 0) 8 Try.underlying39 infoInt rfl .i64 .i64 0 (by omega) (by omega) u
  have hrA : RNres [] m w (w1.heap.size + 2) (((w1.alloc (.cells #[] 62)).alloc (.cells (madeCells #[.int .i64 0] 0) 3)).alloc (.cells #[.slice (some ⟨w1.heap.size, 0, none⟩) 0 0, .slice (some ⟨w1.heap.size + 1, 0, none⟩) 0 0, .string m, .slice none 0 0, .slice none 0 0, .bool false] 44)) := by
    have hsz : (w1.alloc (.cells #[] 62)).heap.size = w1.heap.size + 1 := by simp
    have hsz2 : ((w1.alloc (.cells #[] 62)).alloc (.cells (madeCells #[.int .i64 0] 0) 3)).heap.size = w1.heap.size + 2 := by simp
    have h1 := row_zero (w1.alloc (.cells #[] 62)) 0 (by decide)
    rw [hsz] at h1
    have h2 := rnew_asm2 (l := []) (m := m) (n := 0) (B := w1.heap.size + 1) (c5 := 0) (a5 := some ⟨w1.heap.size, 0, none⟩) rfl HB (below_al (below_al (Below.refl _ _) _) _) ((made0B w1 _ (Nat.le_refl _)).alloc (.cells (madeCells #[.int .i64 0] 0) 3)) h1 (Nat.le_succ _) (fun h => by have h : some w1.heap.size = some (w1.heap.size + 1) := h; injection h with h; omega)
    rwa [hsz2] at h2
  have hrC : RNres [] m w (w1.heap.size + 2) (((w1.alloc (.cells (madeCells #[.int .i64 0] 0) 3)).alloc (.cells #[] 62)).alloc (.cells #[.slice (some ⟨w1.heap.size + 1, 0, none⟩) 0 0, .slice (some ⟨w1.heap.size, 0, none⟩) 0 0, .string m, .slice none 0 0, .slice none 0 0, .bool false] 44)) := by
    have hsz2 : ((w1.alloc (.cells (madeCells #[.int .i64 0] 0) 3)).alloc (.cells #[] 62)).heap.size = w1.heap.size + 2 := by simp
    have h1 := row_zero w1 0 (by decide)
    have h2 := rnew_asm2 (l := []) (m := m) (n := 0) (B := w1.heap.size) (c5 := 0) (a5 := some ⟨w1.heap.size + 1, 0, none⟩) rfl HB (below_al (below_al (Below.refl _ _) _) _) (made0C w1 0) (h1.keep fun b e => Below.heap_alloc _ _ b (h1.lt e)) (Nat.le_refl _) (fun h => by have h : some (w1.heap.size + 1) = some w1.heap.size := h; injection h with h; omega)
    rwa [hsz2] at h2
  replace hrA := Lib.hid hrA.drew
  replace hrC := Lib.hid hrC.drew
  go_upto_region 3 with fail
  go_region_law (first | (refine step_append_none _ rfl (.tmp 14) (.tmp 15) 22 rfl w1.heap.size 62 j0 4 Try.underlying22 hj (.slice (some ⟨w1.heap.size, 0, none⟩) 0 0) 0 [] (by first | rfl | (simp [Act.eval]; done)) (by first | exact (made0B w1 _ (Nat.le_refl _)).drew | exact ((made0B w1 _ (Nat.le_refl _)).alloc _).drew) (by first | rfl | (simp [Act.eval]; done)) ?_) | (refine step_append_none _ rfl (.tmp 14) (.tmp 15) 22 rfl w1.heap.size 62 j0 4 Try.underlying22 hj (.slice (some ⟨w1.heap.size + 1, 0, none⟩) 0 0) 0 [] (by first | rfl | (simp [Act.eval]; done)) (by exact (made0C w1 0).drew) (by first | rfl | (simp [Act.eval]; done)) ?_))
  all_goals
    clear hmk
    go_wp2_with fail
    first
      | exact bodyPost_ret (v := .tuple #[.pointer (some ⟨w1.heap.size + 2, 0, none⟩), .int .i64 0]) (by simp [results, Try.results10, go_sem]) rfl ⟨fun h => (by cases h), fun _ => hrA.out.1, hrA.out.2⟩
      | exact bodyPost_ret (v := .tuple #[.pointer (some ⟨w1.heap.size + 2, 0, none⟩), .int .i64 0]) (by simp [results, Try.results10, go_sem]) rfl ⟨fun h => (by cases h), fun _ => hrC.out.1, hrC.out.2⟩
theorem rnew_any (l : List Bun) (m : ByteArray) (hm : m.size ≤ 60) (ao : Option Addr) (cap : Nat) (hl : l.length ≤ cap) (hc : cap ≤ 9223372036854775807) (hs : Hid (∀ x ∈ l, x.tag.size ≤ 60 ∧ x.mark.size ≤ 60)) (hf : (ao = none ∧ l.length = 0 ∧ cap = 0) ∨ ∃ b off, ao = some ⟨b, off, none⟩) (w : World) (ha : Hid (RowAt encB 4 w.heap.size w ao l)) :
    Calls Try.prog 10 #[.slice ao l.length cap, .string m] w fun e w' => RNewPost l m w e w' := by
  rcases hf with ⟨rfl, h0, rfl⟩ | ⟨b, off, rfl⟩
  · obtain rfl := List.length_eq_zero_iff.1 h0
    exact rnew_nil m hm w
  · exact rnew_some l m hm b off cap hl hc hs w ha

end Go.Proofs.Ytpocmijfkjjboaa
