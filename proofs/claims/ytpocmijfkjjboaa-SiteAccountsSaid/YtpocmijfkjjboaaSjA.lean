/- the reference's New. -/
import Derived.Test.YtpocmijfkjjboaaSiX
import Derived.Deep.AppendLies
set_option linter.unusedVariables false
namespace Go.Proofs.Ytpocmijfkjjboaa
open Go.ChangeShapes Go.WideShapes Go.ChangeAt Go.RowKit

theorem infoBun : (Try.prog.info? 62).map (fun i => (i.zero, i.size, i.bytes)) = some (some (.agg #[.string ⟨#[]⟩, .string ⟨#[]⟩, .int .i64 0, .int .i64 0]), 4, 48) := by kernel_rfl
theorem made0B (w : World) (base : Nat) (hb : base ≤ w.heap.size) : (w.alloc (.cells #[] 62)).ownsRow base 62 4 (.slice (some ⟨w.heap.size, 0, none⟩) 0 0) 0 [] := World.ownsRow_made w #[] 0 hb (Nat.zero_le _) (by simp)
def RNres (l : List Bun) (m : ByteArray) (w : World) (g0 : Nat) (W : World) : Prop := (∃ g p, Ending.returned (.tuple #[.pointer (some ⟨g0, 0, none⟩), .int .i64 0]) = .returned (.tuple #[.pointer (some ⟨g, 0, none⟩), .int .i64 0]) ∧ RefW W g (st0 l m) p ∧ ∀ b, some b ∈ p.fp g → w.heap.size ≤ b) ∧ Below w.heap.size w W
def RNewPost (l : List Bun) (m : ByteArray) (w : World) (e : Ending) (w' : World) : Prop :=
  (newOk l m = false → e = .returned (.tuple #[.pointer none, .int .i64 1])) ∧ (newOk l m = true → ∃ g p, e = .returned (.tuple #[.pointer (some ⟨g, 0, none⟩), .int .i64 0]) ∧ RefW w' g (st0 l m) p ∧ ∀ b, some b ∈ p.fp g → w.heap.size ≤ b) ∧ Below w.heap.size w w'
theorem rnew_asm {l : List Bun} {m : ByteArray} {n : Nat} {w w1 w5 : World} {a5 : Option Addr} {c5 : Nat} (hn : l.length = n) (hn1 : n ≤ 1000) (HB : Below w.heap.size w w1) (hb5 : Below w1.heap.size w1 w5) (ho : w5.ownsRow w1.heap.size 62 4 (.slice a5 n c5) n (l.flatMap encB)) :
    RNres l m w (w5.heap.size + 1) ((w5.alloc (.cells (madeCells #[.int .i64 0] n) 3)).alloc (.cells #[.slice a5 n c5, .slice (some ⟨w5.heap.size, 0, none⟩) n n, .string m, .slice none 0 0, .slice none 0 0, .bool false] 44)) := by
  have h51 : w1.heap.size ≤ w5.heap.size := hb5.size
  have h10 : w.heap.size ≤ w1.heap.size := HB.size
  have hlt : ∀ b, (Value.slice a5 n c5).ownBlock = some b → b < w5.heap.size := fun b hb => by
    obtain ⟨_, ⟨q, _⟩ | ⟨g, cap, cur, q1, q2, q3, _⟩⟩ := ho
    · rw [q] at hb; cases hb
    · rw [q1] at hb
      have hb : some g = some b := hb
      injection hb with hb
      subst hb
      exact (Array.getElem?_eq_some_iff.1 q3).1
  refine ⟨⟨w5.heap.size + 1, ⟨.slice a5 n c5, .slice (some ⟨w5.heap.size, 0, none⟩) n n, .slice none 0 0, .slice none 0 0⟩, rfl, ⟨At.new' (by simp), ⟨l, rfl, ?_⟩, ?_, World.ownsRow_nil _ _ _ _, World.ownsRow_nil _ _ _ _, ?_⟩, ?_⟩, below_al (below_al (below_then HB hb5) _) _⟩
  · have h1 : Row w5 62 4 encB (.slice a5 n c5) l := by
      unfold Row
      rw [hn]
      exact ⟨ho.1, ho.2.imp id fun ⟨g, cap, cur, q1, _, q3⟩ => ⟨g, cap, cur, q1, Nat.zero_le _, q3⟩⟩
    refine h1.keep fun b hb => ?_
    have := hlt b hb
    rw [Below.heap_alloc _ _ b (by simp; omega), Below.heap_alloc _ _ b this]
  · have h1 := row_zero w5 n hn1
    have h2 : (st0 l m).at_ = List.replicate n 0 := by unfold st0; rw [hn]
    rw [h2]
    exact h1.keep fun b hb => Below.heap_alloc _ _ b (h1.lt hb)
  · rw [RDjs.iff]
    have no : ∀ o : Option Nat, Dj o none := fun o x _ h => by cases h
    refine ⟨fun x h1 h2 => ?_, fun x h1 h2 => ?_, no _, no _, fun x h1 h2 => ?_, no _, no _, no _, no _, no _⟩
    · injection h1 with h1; have := hlt x h2; omega
    · injection h1 with h1
      have h2 : some w5.heap.size = some x := h2
      injection h2 with h2
      omega
    · have h2 : some w5.heap.size = some x := h2
      injection h2 with h2
      have := hlt x h1
      omega
  · intro b hbm
    simp only [RV.fp, List.mem_cons, List.not_mem_nil, or_false] at hbm
    rcases hbm with q | q | q | q | q
    · injection q with q; omega
    · have := own_ge0 ho q.symm; omega
    · have q : some b = some w5.heap.size := q
      injection q with q; omega
    · cases q
    · cases q
theorem rnew_asm2 {l : List Bun} {m : ByteArray} {n B : Nat} {w w1 w5 : World} {a5 : Option Addr} {c5 : Nat} (hn : l.length = n) (HB : Below w.heap.size w w1) (hb5 : Below w1.heap.size w1 w5) (ho : w5.ownsRow w1.heap.size 62 4 (.slice a5 n c5) n (l.flatMap encB)) (hm : Row w5 3 1 encN (.slice (some ⟨B, 0, none⟩) n n) (List.replicate n 0)) (hB : w1.heap.size ≤ B) (hne : (Value.slice a5 n c5).ownBlock ≠ some B) :
    RNres l m w w5.heap.size (w5.alloc (.cells #[.slice a5 n c5, .slice (some ⟨B, 0, none⟩) n n, .string m, .slice none 0 0, .slice none 0 0, .bool false] 44)) := by
  have h51 : w1.heap.size ≤ w5.heap.size := hb5.size
  have h10 : w.heap.size ≤ w1.heap.size := HB.size
  have hBl : B < w5.heap.size := hm.lt rfl
  have hlt : ∀ b, (Value.slice a5 n c5).ownBlock = some b → b < w5.heap.size := fun b hb => by
    obtain ⟨_, ⟨q, _⟩ | ⟨g, cap, cur, q1, q2, q3, _⟩⟩ := ho
    · rw [q] at hb; cases hb
    · rw [q1] at hb
      have hb : some g = some b := hb
      injection hb with hb
      subst hb
      exact (Array.getElem?_eq_some_iff.1 q3).1
  refine ⟨⟨w5.heap.size, ⟨.slice a5 n c5, .slice (some ⟨B, 0, none⟩) n n, .slice none 0 0, .slice none 0 0⟩, rfl, ⟨At.new' rfl, ⟨l, rfl, ?_⟩, ?_, World.ownsRow_nil _ _ _ _, World.ownsRow_nil _ _ _ _, ?_⟩, ?_⟩, below_al (below_then HB hb5) _⟩
  · have h1 : Row w5 62 4 encB (.slice a5 n c5) l := by
      unfold Row
      rw [hn]
      exact ⟨ho.1, ho.2.imp id fun ⟨g, cap, cur, q1, _, q3⟩ => ⟨g, cap, cur, q1, Nat.zero_le _, q3⟩⟩
    exact h1.keep fun b hb => Below.heap_alloc _ _ b (hlt b hb)
  · have h2 : (st0 l m).at_ = List.replicate n 0 := by unfold st0; rw [hn]
    rw [h2]
    exact hm.keep fun b hb => Below.heap_alloc _ _ b (hm.lt hb)
  · rw [RDjs.iff]
    have no : ∀ o : Option Nat, Dj o none := fun o x _ h => by cases h
    refine ⟨fun x h1 h2 => ?_, fun x h1 h2 => ?_, no _, no _, fun x h1 h2 => ?_, no _, no _, no _, no _, no _⟩
    · injection h1 with h1; have := hlt x h2; omega
    · injection h1 with h1
      have h2 : some B = some x := h2
      injection h2 with h2
      omega
    · have h2 : some B = some x := h2
      exact hne (by rw [h1, h2])
  · intro b hbm
    simp only [RV.fp, List.mem_cons, List.not_mem_nil, or_false] at hbm
    rcases hbm with q | q | q | q | q
    · injection q with q; omega
    · have := own_ge0 ho q.symm; omega
    · have q : some b = some B := q
      injection q with q; omega
    · cases q
    · cases q
theorem made0C (w : World) (n : Nat) : ((w.alloc (.cells (madeCells #[.int .i64 0] n) 3)).alloc (.cells #[] 62)).ownsRow w.heap.size 62 4 (.slice (some ⟨w.heap.size + 1, 0, none⟩) 0 0) 0 [] := by
  have h0 := made0B (w.alloc (.cells (madeCells #[.int .i64 0] n) 3)) w.heap.size (by simp)
  rwa [show (w.alloc (.cells (madeCells #[.int .i64 0] n) 3)).heap.size = w.heap.size + 1 by simp] at h0
theorem grown_bel {w1 X w5 : World} {B : Nat} (hX : Below w1.heap.size w1 X) (hg : X.grownBy w5 (some B)) (hB : w1.heap.size ≤ B) : Below w1.heap.size w1 w5 := hX.grown hg hX.size (fun j hj => by injection hj with hj; omega)
section
variable {l : List Bun} {m : ByteArray} {n : Nat} {w w1 w5 : World} {a5 : Option Addr} {c5 : Nat}
theorem rnA (hn : l.length = n) (hn1 : n ≤ 1000) (HB : Below w.heap.size w w1) (ho : w5.ownsRow w1.heap.size 62 4 (.slice a5 (0 + n) c5) (0 + n) ([] ++ l.flatMap encB)) (hg : (w1.alloc (.cells #[] 62)).drew.grownBy w5 (Value.slice (some ⟨w1.heap.size, 0, none⟩) 0 0).ownBlock) : RNres l m w (w5.heap.size + 1) ((w5.alloc (.cells (madeCells #[.int .i64 0] n) 3)).alloc (.cells #[.slice a5 n c5, .slice (some ⟨w5.heap.size, 0, none⟩) n n, .string m, .slice none 0 0, .slice none 0 0, .bool false] 44)) :=
  rnew_asm (m := m) hn hn1 HB (grown_bel (below_drew (below_al (Below.refl _ _) _)) hg (Nat.le_refl _)) (by rw [Nat.zero_add, List.nil_append] at ho; exact ho)
theorem rnB (hn : l.length = n) (hn1 : n ≤ 1000) (HB : Below w.heap.size w w1) (ho : w5.ownsRow w1.heap.size 62 4 (.slice a5 (0 + n) c5) (0 + n) ([] ++ l.flatMap encB)) (hg : ((w1.alloc (.cells #[] 62)).alloc (.cells (madeCells #[.int .i64 0] n) 3)).drew.grownBy w5 (Value.slice (some ⟨w1.heap.size, 0, none⟩) 0 0).ownBlock) (hloc : (Value.slice a5 (0 + n) c5).ownBlock = (Value.slice (some ⟨w1.heap.size, 0, none⟩) 0 0).ownBlock ∨ (Value.slice a5 (0 + n) c5).ownBlock = some ((w1.alloc (.cells #[] 62)).alloc (.cells (madeCells #[.int .i64 0] n) 3)).drew.heap.size) : RNres l m w w5.heap.size (w5.alloc (.cells #[.slice a5 n c5, .slice (some ⟨w1.heap.size + 1, 0, none⟩) n n, .string m, .slice none 0 0, .slice none 0 0, .bool false] 44)) := by
  have hsz : (w1.alloc (.cells #[] 62)).heap.size = w1.heap.size + 1 := by simp
  have hsz2 : ((w1.alloc (.cells #[] 62)).alloc (.cells (madeCells #[.int .i64 0] n) 3)).drew.heap.size = w1.heap.size + 2 := by show ((w1.alloc (.cells #[] 62)).alloc (.cells (madeCells #[.int .i64 0] n) 3)).heap.size = _; simp
  have hmd : Row w5 3 1 encN (.slice (some ⟨w1.heap.size + 1, 0, none⟩) n n) (List.replicate n 0) := by
    have := row_zero (w1.alloc (.cells #[] 62)) n hn1
    rw [hsz] at this
    exact this.keep fun x e => by
      have e : some (w1.heap.size + 1) = some x := e
      injection e with e
      exact hg.block x (by rw [hsz2]; omega) (fun e2 => by
        have e2 : some x = some w1.heap.size := e2
        injection e2 with e2
        omega)
  rw [Nat.zero_add, List.nil_append] at ho
  rw [Nat.zero_add, hsz2] at hloc
  exact rnew_asm2 (m := m) hn HB (grown_bel (below_drew (below_al (below_al (Below.refl _ _) _) _)) hg (Nat.le_refl _)) ho hmd (Nat.le_succ _) (fun h => by
    rcases hloc with q | q
    · rw [h] at q
      have q : some (w1.heap.size + 1) = some w1.heap.size := q
      injection q with q
      omega
    · rw [h] at q
      injection q with q
      omega)
theorem rnC (hn : l.length = n) (hn1 : n ≤ 1000) (HB : Below w.heap.size w w1) (ho : w5.ownsRow w1.heap.size 62 4 (.slice a5 (0 + n) c5) (0 + n) ([] ++ l.flatMap encB)) (hg : ((w1.alloc (.cells (madeCells #[.int .i64 0] n) 3)).alloc (.cells #[] 62)).drew.grownBy w5 (Value.slice (some ⟨w1.heap.size + 1, 0, none⟩) 0 0).ownBlock) (hloc : (Value.slice a5 (0 + n) c5).ownBlock = (Value.slice (some ⟨w1.heap.size + 1, 0, none⟩) 0 0).ownBlock ∨ (Value.slice a5 (0 + n) c5).ownBlock = some ((w1.alloc (.cells (madeCells #[.int .i64 0] n) 3)).alloc (.cells #[] 62)).drew.heap.size) : RNres l m w w5.heap.size (w5.alloc (.cells #[.slice a5 n c5, .slice (some ⟨w1.heap.size, 0, none⟩) n n, .string m, .slice none 0 0, .slice none 0 0, .bool false] 44)) := by
  have hsz2 : ((w1.alloc (.cells (madeCells #[.int .i64 0] n) 3)).alloc (.cells #[] 62)).drew.heap.size = w1.heap.size + 2 := by show ((w1.alloc (.cells (madeCells #[.int .i64 0] n) 3)).alloc (.cells #[] 62)).heap.size = _; simp
  have hmd : Row w5 3 1 encN (.slice (some ⟨w1.heap.size, 0, none⟩) n n) (List.replicate n 0) := (row_zero w1 n hn1).keep fun x e => by
    have e : some w1.heap.size = some x := e
    injection e with e
    exact (hg.block x (by rw [hsz2]; omega) (fun e2 => by
      have e2 : some x = some (w1.heap.size + 1) := e2
      injection e2 with e2
      omega)).trans (Below.heap_alloc _ _ x (by rw [← e]; simp))
  rw [Nat.zero_add, List.nil_append] at ho
  rw [Nat.zero_add, hsz2] at hloc
  exact rnew_asm2 (m := m) hn HB (grown_bel (below_drew (below_al (below_al (Below.refl _ _) _) _)) hg (Nat.le_succ _)) ho hmd (Nat.le_refl _) (fun h => by
    rcases hloc with q | q
    · rw [h] at q
      have q : some w1.heap.size = some (w1.heap.size + 1) := q
      injection q with q
      omega
    · rw [h] at q
      injection q with q
      omega)
end
set_option maxRecDepth 100000 in
set_option maxHeartbeats 2000000 in
theorem rnew_some (l : List Bun) (m : ByteArray) (hm : m.size ≤ 60) (b off cap : Nat) (hl : l.length ≤ cap) (hc : cap ≤ 9223372036854775807) (hs : Hid (∀ x ∈ l, x.tag.size ≤ 60 ∧ x.mark.size ≤ 60)) (w : World) (ha : Hid (RowAt encB 4 w.heap.size w (some ⟨b, off, none⟩) l)) :
    Calls Try.prog 10 #[.slice (some ⟨b, off, none⟩) l.length cap, .string m] w fun e w' => RNewPost l m w e w' := by
  obtain ⟨j0, hj, hj0, hj1, hj2⟩ := info_parts infoBun
  have HV := Lib.hid (valid36_any l (some ⟨b, off, none⟩) cap hl hc hs w ha)
  have HN := Lib.hid (fun u => refisName_any m (by omega) u)
  obtain ⟨b1, hb1⟩ : ∃ b1, bunV l = b1 := ⟨_, rfl⟩
  obtain ⟨b2, hb2⟩ : ∃ b2, nameB (by_ m) = b2 := ⟨_, rfl⟩
  have hnok : newOk l m = (b1 && b2) := by unfold newOk; rw [hb1, hb2]
  have hln : b1 = true → l.length ≤ 1000 := fun h => by
    rw [h] at hb1
    unfold bunV at hb1
    simp only [Bool.and_eq_true, decide_eq_true_eq] at hb1
    exact hb1.1.1
  unfold RNewPost
  rw [hnok]
  rw [hb1] at HV
  rw [hb2] at HN
  replace hln := Lib.hid hln
  clear hb1 hb2 hnok
  obtain ⟨n, hn⟩ : ∃ n, l.length = n := ⟨_, rfl⟩
  rw [hn] at hl HV ⊢
  replace hn := Lib.hid hn
  go_enter Try.func10, Try.ntmps10
  go_wp2_with fail
  refine (HV.out).mono ?_
  rintro e w1 ⟨rfl, HB⟩
  clear HV
  cases b1
  · go_wp2_with fail
    exact bodyPost_ret (v := .tuple #[.pointer none, .int .i64 1]) (by simp [results, Try.results10, go_sem]) rfl ⟨fun _ => rfl, fun h => (by cases h), HB⟩
  go_wp2_with fail
  refine (HN.out _).mono ?_
  rintro e w' ⟨rfl, rfl⟩
  clear HN
  cases b2
  · go_wp2_with fail
    exact bodyPost_ret (v := .tuple #[.pointer none, .int .i64 1]) (by simp [results, Try.results10, go_sem]) rfl ⟨fun _ => rfl, fun h => (by cases h), HB⟩
  have hn1 : n ≤ 1000 := by rw [← hn.out]; first | exact hln.out rfl | exact hln.out trivial
  clear hln
  have hmk := fun u => run_make_row' 39 3 (.int .i64 0) 8 Try.underlying39 infoInt rfl .i64 .i64 n (by omega) (by omega) u
  have hnl : Hid ((l.flatMap encB).length = n * 4) := Lib.hid (by rw [flat_len encB_len, hn.out])
  have hone : Hid (∀ u ∈ l.flatMap encB, u.oneCell' = true) := Lib.hid (fun u hu => by
    obtain ⟨x, _, hx⟩ := List.mem_flatMap.1 hu
    simp [encB] at hx
    rcases hx with rfl | rfl | rfl | rfl <;> rfl)
  have HN : Hid (∀ W, Below w1.heap.size w1 W → ∀ j u, (l.flatMap encB)[j]? = some u → W.cell? ((⟨b, off, none⟩ : Addr).add j) = some u) := Lib.hid (fun W hW j u hu => by
    have e : (⟨b, off, none⟩ : Addr).add j = ⟨b, off + j, none⟩ := by cases j <;> simp [Addr.add]
    rw [e]
    exact (ha.out.bel (Nat.le_refl _) (below_then HB hW)).flat encB_len (by decide) j u hu)
  go_upto_region 3 with fail
  go_region_law (first | (refine step_append_at _ rfl (.tmp 14) (.tmp 15) 22 rfl w1.heap.size 62 j0 (.agg #[.string ⟨#[]⟩, .string ⟨#[]⟩, .int .i64 0, .int .i64 0]) 4 48 Try.underlying22 hj hj0 hj1 hj2 rfl (by decide) (.slice (some ⟨w1.heap.size, 0, none⟩) 0 0) 0 [] (by first | rfl | (simp [Act.eval]; done)) (by exact (made0B w1 _ (Nat.le_refl _)).drew) ⟨b, off, none⟩ n cap (l.flatMap encB) (by first | rfl | (simp [Act.eval]; done)) hnl.out (HN.out _ (by repeat (first | with_reducible assumption | with_reducible exact Below.refl _ _ | with_reducible refine below_al ?_ _ | with_reducible refine below_drew ?_))) hone.out (by unfold maxLen; omega) (by omega) (by first | exact (below_drew (below_al (Below.refl _ _) _)).size | exact (below_drew (below_al (below_al (Below.refl _ _) _) _)).size) ?_; intro a5 c5 w5 ho5 hg5 hloc; have hasm := rnA (m := m) hn.out hn1 HB ho5 hg5; clear hg5 hloc ho5) | (refine step_append_at _ rfl (.tmp 14) (.tmp 15) 22 rfl w1.heap.size 62 j0 (.agg #[.string ⟨#[]⟩, .string ⟨#[]⟩, .int .i64 0, .int .i64 0]) 4 48 Try.underlying22 hj hj0 hj1 hj2 rfl (by decide) (.slice (some ⟨w1.heap.size, 0, none⟩) 0 0) 0 [] (by first | rfl | (simp [Act.eval]; done)) (by exact ((made0B w1 _ (Nat.le_refl _)).alloc _).drew) ⟨b, off, none⟩ n cap (l.flatMap encB) (by first | rfl | (simp [Act.eval]; done)) hnl.out (HN.out _ (by repeat (first | with_reducible assumption | with_reducible exact Below.refl _ _ | with_reducible refine below_al ?_ _ | with_reducible refine below_drew ?_))) hone.out (by unfold maxLen; omega) (by omega) (by first | exact (below_drew (below_al (Below.refl _ _) _)).size | exact (below_drew (below_al (below_al (Below.refl _ _) _) _)).size) ?_; intro a5 c5 w5 ho5 hg5 hloc; have hasm := rnB (m := m) hn.out hn1 HB ho5 hg5 hloc; clear hg5 hloc ho5) | (refine step_append_at _ rfl (.tmp 14) (.tmp 15) 22 rfl w1.heap.size 62 j0 (.agg #[.string ⟨#[]⟩, .string ⟨#[]⟩, .int .i64 0, .int .i64 0]) 4 48 Try.underlying22 hj hj0 hj1 hj2 rfl (by decide) (.slice (some ⟨w1.heap.size + 1, 0, none⟩) 0 0) 0 [] (by first | rfl | (simp [Act.eval]; done)) (by exact (made0C w1 n).drew) ⟨b, off, none⟩ n cap (l.flatMap encB) (by first | rfl | (simp [Act.eval]; done)) hnl.out (HN.out _ (by repeat (first | with_reducible assumption | with_reducible exact Below.refl _ _ | with_reducible refine below_al ?_ _ | with_reducible refine below_drew ?_))) hone.out (by unfold maxLen; omega) (by omega) (by first | exact (below_drew (below_al (Below.refl _ _) _)).size | exact (below_drew (below_al (below_al (Below.refl _ _) _) _)).size) ?_; intro a5 c5 w5 ho5 hg5 hloc; have hasm := rnC (m := m) hn.out hn1 HB ho5 hg5 hloc; clear hg5 hloc ho5))
  all_goals
    clear hmk hone HN hnl
    go_wp2_with fail
    first
      | exact bodyPost_ret (v := .tuple #[.pointer (some ⟨w5.heap.size + 1, 0, none⟩), .int .i64 0]) (by simp [results, Try.results10, go_sem]) rfl ⟨fun h => (by cases h), fun _ => hasm.1, hasm.2⟩
      | exact bodyPost_ret (v := .tuple #[.pointer (some ⟨w5.heap.size, 0, none⟩), .int .i64 0]) (by simp [results, Try.results10, go_sem]) rfl ⟨fun h => (by cases h), fun _ => hasm.1, hasm.2⟩

end Go.Proofs.Ytpocmijfkjjboaa
