/- journal: what the library's variables hold; bytes.Equal, bytes.Cut, strings.Split, strconv.Atoi by value. -/
import Derived.Test.YtpocmijfkjjboaaGreatDoorJoB
import Derived.Test.YtpocmijfkjjboaaGreatDoorTab
import Derived.Lib.AtoiErrMem
import Derived.Shelf.Strconv.ErrVarAll
import Derived.Lib.IndexBytes
import Derived.Lib.SplitLaws
set_option linter.unusedVariables false
namespace Go.Proofs.YtpocmijfkjjboaaGreatDoor
open Go.ChangeShapes Go.WideShapes Go.ChangeAt Go.RowKit

open Go.Lib (decDigits itoa indexByte atoiAll)

theorem var_bel {w w' : World} {n : String} {cs : Array Value} (h : w.var? Tryz.prog n = some cs) (hb : Below w.heap.size w w') : w'.var? Tryz.prog n = some cs := by
  unfold World.var? at *
  cases hg : Tryz.prog.globalNamed n with
  | none => rw [hg] at h; simp at h
  | some g =>
    rw [hg] at h
    simp only [Option.bind_some] at h ⊢
    have hlt : g < w.heap.size := by
      rcases Nat.lt_or_ge g w.heap.size with k | k
      · exact k
      · rw [Array.getElem?_eq_none k] at h; simp at h
    rw [hb.block g hlt]
    exact h

/-- The listed tables, the two sentinels of strconv, the library's bound of a search. -/
structure Env (w : World) : Prop where
  tab : Tab w
  syn : ∃ tp p, w.var? Tryz.prog "strconv.ErrSyntax" = some #[.iface tp p]
  rng : ∃ tp p, w.var? Tryz.prog "strconv.ErrRange" = some #[.iface tp p]
  mx : ∃ m, w.cell? ⟨0, 0, none⟩ = some (.int .i64 m)
theorem Env.bel {w w' : World} (h : Env w) (hb : Below w.heap.size w w') : Env w' :=
  ⟨h.tab.bel hb, h.syn.imp fun _ ⟨p, h⟩ => ⟨p, var_bel h hb⟩, h.rng.imp fun _ ⟨p, h⟩ => ⟨p, var_bel h hb⟩, h.mx.imp fun _ h => (hb.cell (block_lt_of_cell h)).trans h⟩
theorem Env.bel' {w w' : World} {n : Nat} (h : Env w) (hn : w.heap.size ≤ n) (hb : Below n w w') : Env w' := h.bel (hb.mono hn)

def atR (l : List UInt8) (n : Int) (E : Value) : Prop := (E = .nilIface ∧ Lib.atoiAll l = .ok n) ∨ ((∃ N, E = .iface 136 (.pointer (some ⟨N, 0, none⟩))) ∧ ∀ v, Lib.atoiAll l ≠ .ok v)
theorem atoi_env (s : ByteArray) (hs : s.size ≤ 1000000) (w : World) (h : Env w) :
    Calls Tryz.prog 80 #[.string s] w fun e w' => (∃ n E, e = .returned (.tuple #[.int .i64 n, E]) ∧ Hid (atR (by_ s) n E)) ∧ Below w.heap.size w w' := by
  cases ha : Lib.atoiAll s.data.toList with
  | ok v =>
    refine (Tryz.strconv_Atoi_ok s (by omega) v ha w).mono ?_
    rintro e w' ⟨rfl, hw⟩
    refine ⟨⟨v, _, rfl, Lib.hid (Or.inl ⟨rfl, ha⟩)⟩, ?_⟩
    rcases hw with rfl | ⟨t, rfl⟩
    · exact Below.refl _ _
    · exact Lib.bytesWorld_below _ _ _
  | range =>
    obtain ⟨tp, p, hv⟩ := h.rng
    refine (Tryz.strconv_Atoi_range_var s (by omega) ha tp p w hv).mono ?_
    rintro e w' ⟨N, rfl, _, _, hb⟩
    exact ⟨⟨_, _, rfl, Lib.hid (Or.inr ⟨⟨N, rfl⟩, fun v hv => by rw [ha] at hv; cases hv⟩)⟩, hb⟩
  | _ =>
    obtain ⟨tp, p, hv⟩ := h.syn
    refine (Any.strconv_Atoi_syntax_var Tryz.laysC172 s (by omega) ha tp p w hv).mono ?_
    rintro e w' ⟨N, rfl, _, _, hb⟩
    exact ⟨⟨_, _, rfl, Lib.hid (Or.inr ⟨⟨N, rfl⟩, fun v hv => by rw [ha] at hv; cases hv⟩)⟩, hb⟩

theorem beq_v (l1 l2 : List UInt8) (v1 v2 : Value) (w : World) (h1 : IsB l1 v1 w) (h2 : IsB l2 v2 w) :
    Calls Tryz.prog 61 #[v1, v2] w fun e w' => e = .returned (.bool (decide (l1 = l2))) ∧ w = w' := by
  obtain ⟨a, n, c, rfl, _, _⟩ := h1.shape
  obtain ⟨b, m, d, rfl, _, _⟩ := h2.shape
  refine (Tryz.bytes_Equal_strs _ _ _ _ w h1.str h2.str).mono ?_
  rintro e w' ⟨rfl, rfl⟩
  refine ⟨?_, rfl⟩
  congr 2
  rw [Bool.eq_iff_iff, decide_eq_true_iff, beq_iff_eq, Lib.toList_data, Lib.toList_data]
/-- The bytes as numbers. -/
def numsU (l : List UInt8) : List Int := l.map fun c => (c.toNat : Int)
theorem numsU_of (l : List UInt8) : Lib.bytesOf (numsU l) = l := by
  unfold Lib.bytesOf numsU
  rw [List.map_map]
  exact (List.map_congr_left (g := id) (fun c _ => by simp)).trans (List.map_id l)
theorem cutN_none' {b : List UInt8} (h : cutN b = none) : noB 10 b := by
  unfold cutN at h
  split at h
  · cases h
  · rename_i q
    have : b.findIdx (· == 10) = b.length := Nat.le_antisymm (List.findIdx_le_length) (by omega)
    rw [List.findIdx_eq_length] at this
    intro x hx
    have := this x hx
    simpa using this
theorem noB_all {c : UInt8} {l : List UInt8} (h : noB c l) : (l.all fun b => b != c) = true := by
  rw [List.all_eq_true]
  intro b hb
  simpa using h b hb
theorem idx10 (l : List UInt8) : indexByte l 10 = match cutN l with | some m => (m.length : Int) | none => -1 := by
  cases h : cutN l with
  | none => exact idx_no 10 l (noB_all (cutN_none' h))
  | some m =>
    obtain ⟨h1, r, rfl⟩ := cutN_iff.1 h
    exact idx_in 10 m r (noB_all h1)
theorem IsB.pre {l : List UInt8} {a : Option Addr} {n c : Nat} {w : World} (h : IsB l (.slice a n c) w) (j : Nat) (hj : j ≤ n) : IsB (l.take j) (.slice a j c) w := by
  obtain ⟨a', c', e, h2, h3, h4, h5⟩ := h
  injection e with e1 e2 e3
  subst e1 e2 e3
  have hlen : (l.take j).length = j := by rw [List.length_take]; omega
  refine ⟨a, c, by rw [hlen], by rw [hlen]; omega, h3, fun k hk => ?_, h5⟩
  obtain ⟨b, off, e, hlt, hc⟩ := h4 k (by rw [hlen] at hk; omega)
  exact ⟨b, off, e, hlt, fun q u hu => hc q u (by rw [← hu]; simp)⟩
theorem cut_v (l : List UInt8) (v : Value) (S : Nat) (w : World) (h : IsB l v w) (hl : l.length ≤ 4294967280) (hS : w.cell? ⟨S, 0, none⟩ = some (.int .u8 10)) :
    Calls Tryz.prog 62 #[v, .slice (some ⟨S, 0, none⟩) 1 1] w fun e w' => (∃ v1 v2 f m, e = .returned (.tuple #[v1, v2, .bool f]) ∧ Hid (IsB m v1 w') ∧ Hid ((cutN l = some m ∧ f = true) ∨ (cutN l = none ∧ m = l ∧ f = false)) ∧ Hid (∃ a n c, v2 = .slice a n c)) ∧ Below w.heap.size w w' := by
  obtain ⟨a, c, rfl, h2, h3, h4, h5⟩ := id h
  have hidx : Calls Tryz.prog 78 #[.slice a l.length c, .slice (some ⟨S, 0, none⟩) 1 1] w fun e w' => e = .returned (.int .i64 (indexByte l 10)) ∧ ∃ q, w' = w.drewN q := by
    rcases h5 with ⟨rfl, rfl⟩ | ⟨b, off, rfl⟩
    · obtain rfl := List.length_eq_zero_iff.1 (Nat.le_zero.1 h2)
      exact (Tryz.bytes_Index_one_nil S 0 1 10 w hS).mono fun e w' ⟨h1, h2⟩ => ⟨h1, 0, h2⟩
    · have hz : (numsU l).length = l.length := by unfold numsU; simp
      have := Tryz.bytes_Index_one_at ⟨b, off, none⟩ l.length c S 0 1 (numsU l) 10 w hz (fun i hi => by
        obtain ⟨b', off', e, hc, _⟩ := h4.byte i hi
        simp only [Option.some.injEq, Addr.mk.injEq, and_true] at e
        obtain ⟨rfl, rfl⟩ := e
        have ea : (⟨b, off, none⟩ : Addr).add i = ⟨b, off + i, none⟩ := by cases i <;> simp [Addr.add]
        rw [ea, hc]
        simp [numsU, hi]) hS
      rw [numsU_of] at this
      exact this.mono fun e w' ⟨h1, h2⟩ => ⟨h1, 0, h2⟩
  have hr := idx10 l
  have hb : -1 ≤ indexByte l 10 ∧ (0 ≤ indexByte l 10 → indexByte l 10 + (1 : Nat) ≤ l.length) := by
    rw [hr]
    cases hc : cutN l with
    | none => exact ⟨by decide, fun h => by simp at h⟩
    | some m =>
      obtain ⟨_, r, e⟩ := cutN_iff.1 hc
      have := congrArg List.length e
      simp at this
      simp only
      exact ⟨by omega, fun _ => by omega⟩
  refine (Tryz.bytes_Cut_of a (some ⟨S, 0, none⟩) l.length c 1 1 (indexByte l 10) w h2 hb.1 hb.2 (by omega) hidx).mono ?_
  rintro e w' ⟨rfl, q, rfl⟩
  rw [hr]
  refine ⟨?_, below_drewN (Below.refl _ _) _⟩
  cases hc : cutN l with
  | none =>
    refine ⟨.slice a l.length c, .slice none 0 0, false, l, by simp [Lib.cutV], Lib.hid (h.up (below_drewN (Below.refl _ _) q)), Lib.hid (.inr ⟨rfl, rfl, rfl⟩), Lib.hid ⟨_, _, _, rfl⟩⟩
  | some m =>
    obtain ⟨_, r, e⟩ := cutN_iff.1 hc
    have hm : m.length ≤ l.length := by have := congrArg List.length e; simp at this; omega
    have hs := (h.up (below_drewN (Below.refl _ _) q : Below w.heap.size w (w.drewN q))).pre m.length hm
    have ht : l.take m.length = m := by rw [e, List.take_left]
    rw [ht] at hs
    exact ⟨.slice a m.length c, Lib.fromV a l.length c (m.length + 1), true, m, by simp [Lib.cutV], Lib.hid hs, Lib.hid (.inl ⟨rfl, rfl⟩), Lib.hid ⟨_, _, _, rfl⟩⟩
/-! ### strings.Split at a space -/
def spB : ByteArray := ⟨#[32]⟩
theorem split_plain : ∀ (k : Nat) (s : ByteArray), Lib.countB s spB = k → (Lib.splitB spB 0 k s).map by_ = splitB 32 (by_ s) := by
  have key : ∀ s : ByteArray, (noB 32 (by_ s) ∧ Lib.indexB s spB = -1) ∨ ∃ a r, noB 32 a ∧ by_ s = a ++ 32 :: r ∧ Lib.indexB s spB = (a.length : Int) := by
    intro s
    have e0 : Lib.indexB s spB = indexByte (by_ s) 32 := Lib.index_one _ _
    cases hs : splitB 32 (by_ s) with
    | nil => exact absurd hs (splitB_ne _ _)
    | cons a ws =>
      obtain ⟨ha, ⟨_, h2⟩ | ⟨r, _, h2⟩⟩ := splitB_back hs
      · rw [← h2] at ha
        exact .inl ⟨ha, by rw [e0]; exact idx_no 32 _ (noB_all ha)⟩
      · exact .inr ⟨a, r, ha, h2, by rw [e0, h2]; exact idx_in 32 a r (noB_all ha)⟩
  intro k
  induction k with
  | zero =>
    intro s hk
    rcases key s with ⟨h1, _⟩ | ⟨a, r, h1, h2, h3⟩
    · rw [Lib.splitB_zero, splitB_no h1]
      rfl
    · have := Lib.countB_hit s spB a.length (by decide) h3
      omega
  | succ k ih =>
    intro s hk
    rcases key s with ⟨_, h2⟩ | ⟨a, r, h1, h2, h3⟩
    · rw [Lib.countB_miss s spB h2] at hk
      omega
    · have hc := Lib.countB_hit s spB a.length (by decide) h3
      have e1 : by_ (s.extract 0 (a.length + 0)) = a := by
        show (s.extract 0 (a.length + 0)).data.toList = a
        rw [Lib.extract_data, show s.data.toList = a ++ 32 :: r from h2]
        simp
      have e2 : by_ (s.extract (a.length + spB.size) s.size) = r := by
        show (s.extract (a.length + spB.size) s.size).data.toList = r
        rw [Lib.extract_data, show s.data.toList = a ++ 32 :: r from h2, show spB.size = 1 from rfl]
        have hz : s.size = a.length + (r.length + 1) := by
          have := congrArg List.length h2
          rw [by_len] at this
          simpa using this
        have hd : (a ++ 32 :: r).drop (a.length + 1) = r := by
          rw [show a ++ 32 :: r = (a ++ [32]) ++ r by simp, List.drop_left' (by simp)]
        rw [hz, hd, List.take_of_length_le (by omega)]
      rw [Lib.splitB_hit spB 0 k s a.length h3, List.map_cons, e1, ih _ (by omega), e2, h2, splitB_at r h1]
theorem split_v (s : ByteArray) (hs : s.size ≤ 4294967280) (w : World) (h : Env w) :
    Calls Tryz.prog 63 #[.string s, .string ⟨#[32]⟩] w fun e w' => (∃ ws : List ByteArray, e = .returned (.slice (some ⟨w.heap.size, 0, none⟩) ws.length ws.length) ∧ Hid (ws.map by_ = splitB 32 (by_ s)) ∧ Hid (RowAt encS 1 w'.heap.size w' (some ⟨w.heap.size, 0, none⟩) ws)) ∧ Below w.heap.size w w' := by
  obtain ⟨m, hm⟩ := h.mx
  refine (Tryz.strings_Split s spB m w (by omega) hm (by decide)).mono ?_
  rintro e w' ⟨rfl, rfl⟩
  have hp := split_plain _ s rfl
  have hl := Lib.splitB_all spB (by decide) 0 _ s rfl
  refine ⟨⟨Lib.splitB spB 0 (Lib.countB s spB) s, by rw [hl], Lib.hid hp, Lib.hid ?_⟩, below_al (Below.refl _ _) _⟩
  generalize Lib.splitB spB 0 (Lib.countB s spB) s = ws at *
  intro k hk
  refine ⟨w.heap.size, 0, rfl, (At.new w _ _).lt, fun j u hu => ?_⟩
  have hj : j = 0 := by have := (List.getElem?_eq_some_iff.1 hu).1; rw [encS_len] at this; omega
  subst hj
  rw [cell_of_row _ w.heap.size (0 + k * 1 + 0) _ 9 (0, 0) (heap_alloc_new w _), ← hu]
  simp [encS, hk]

end Go.Proofs.YtpocmijfkjjboaaGreatDoor
