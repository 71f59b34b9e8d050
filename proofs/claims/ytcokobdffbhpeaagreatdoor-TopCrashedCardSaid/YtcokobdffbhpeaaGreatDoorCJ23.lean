/- journal: what the library's variables hold; bytes.Equal, bytes.Cut, strings.Split, strconv.Atoi by value. journal: a record; where a byte stands last. -/
import Derived.Test.YtcokobdffbhpeaaGreatDoorCJ18
import Derived.Test.YtcokobdffbhpeaaGreatDoorCJ22
import Derived.Lib.AtoiErrMem
import Derived.Shelf.Strconv.ErrVarAll
import Derived.Lib.IndexBytes
import Derived.Lib.SplitLaws
set_option linter.unusedVariables false
namespace Go.Proofs.YtcokobdffbhpeaaGreatDoor
open Go.ChangeShapes Go.WideShapes Go.ChangeAt Go.RowKit
open Go.Lib (decDigits itoa indexByte atoiAll)
theorem var_bel {w w' : World} {n : String} {cs : Array Value} (h : w.var? Tryz.prog n = some cs) (hb : Below w.heap.size w w') : w'.var? Tryz.prog n = some cs := by
  unfold World.var? at *
  cases hg : Tryz.prog.globalNamed n with
  | none => rw [hg] at h; simp at h
  | some g =>
    rw [hg] at h
    simp only [Option.bind_some] at h ⊢
    have hlt : g < w.heap.size := by
      rcases Nat.lt_or_ge g w.heap.size with k | k
      · exact k
      · rw [Array.getElem?_eq_none k] at h; simp at h
    rw [hb.block g hlt]
    exact h
structure Env (w : World) : Prop where
  tab : Tab w
  syn : ∃ tp p, w.var? Tryz.prog "strconv.ErrSyntax" = some #[.iface tp p]
  rng : ∃ tp p, w.var? Tryz.prog "strconv.ErrRange" = some #[.iface tp p]
  mx : ∃ m, w.cell? ⟨0, 0, none⟩ = some (.int .i64 m)
theorem Env.bel {w w' : World} (h : Env w) (hb : Below w.heap.size w w') : Env w' :=
  ⟨h.tab.bel hb, h.syn.imp fun _ ⟨p, h⟩ => ⟨p, var_bel h hb⟩, h.rng.imp fun _ ⟨p, h⟩ => ⟨p, var_bel h hb⟩, h.mx.imp fun _ h => (hb.cell (block_lt_of_cell h)).trans h⟩
def atR (l : List UInt8) (n : Int) (E : Value) : Prop := (E = .nilIface ∧ Lib.atoiAll l = .ok n) ∨ ((∃ N, E = .iface 162 (.pointer (some ⟨N, 0, none⟩))) ∧ ∀ v, Lib.atoiAll l ≠ .ok v)
theorem atoi_env (s : ByteArray) (hs : s.size ≤ 1000000) (w : World) (h : Env w) :
    Calls Tryz.prog 82 #[.string s] w fun e w' => (∃ n E, e = .returned (.tuple #[.int .i64 n, E]) ∧ Hid (atR (by_ s) n E)) ∧ Below w.heap.size w w' := by
  cases ha : Lib.atoiAll s.data.toList with
  | ok v =>
    refine (Tryz.strconv_Atoi_ok s (by omega) v ha w).mono ?_
    rintro e w' ⟨rfl, hw⟩
    refine ⟨⟨v, _, rfl, Lib.hid (Or.inl ⟨rfl, ha⟩)⟩, ?_⟩
    rcases hw with rfl | ⟨t, rfl⟩
    · exact Below.refl _ _
    · exact Lib.bytesWorld_below _ _ _
  | range =>
    obtain ⟨tp, p, hv⟩ := h.rng
    refine (Tryz.strconv_Atoi_range_var s (by omega) ha tp p w hv).mono ?_
    rintro e w' ⟨N, rfl, _, _, hb⟩
    exact ⟨⟨_, _, rfl, Lib.hid (Or.inr ⟨⟨N, rfl⟩, fun v hv => by rw [ha] at hv; cases hv⟩)⟩, hb⟩
  | _ =>
    obtain ⟨tp, p, hv⟩ := h.syn
    refine (Any.strconv_Atoi_syntax_var Tryz.laysC172 s (by omega) ha tp p w hv).mono ?_
    rintro e w' ⟨N, rfl, _, _, hb⟩
    exact ⟨⟨_, _, rfl, Lib.hid (Or.inr ⟨⟨N, rfl⟩, fun v hv => by rw [ha] at hv; cases hv⟩)⟩, hb⟩
theorem beq_v (l1 l2 : List UInt8) (v1 v2 : Value) (w : World) (h1 : IsB l1 v1 w) (h2 : IsB l2 v2 w) :
    Calls Tryz.prog 45 #[v1, v2] w fun e w' => e = .returned (.bool (decide (l1 = l2))) ∧ w = w' := by
  obtain ⟨a, n, c, rfl, _, _⟩ := h1.shape
  obtain ⟨b, m, d, rfl, _, _⟩ := h2.shape
  refine (Tryz.bytes_Equal_strs _ _ _ _ w h1.str h2.str).mono ?_
  rintro e w' ⟨rfl, rfl⟩
  refine ⟨?_, rfl⟩
  congr 2
  rw [Bool.eq_iff_iff, decide_eq_true_iff, beq_iff_eq, Lib.toList_data, Lib.toList_data]
def numsU (l : List UInt8) : List Int := l.map fun c => (c.toNat : Int)
theorem numsU_of (l : List UInt8) : Lib.bytesOf (numsU l) = l := by
  unfold Lib.bytesOf numsU
  rw [List.map_map]
  exact (List.map_congr_left (g := id) (fun c _ => by simp)).trans (List.map_id l)
theorem cutN_none' {b : List UInt8} (h : cutN b = none) : noB 10 b := by
  unfold cutN at h
  split at h
  · cases h
  · rename_i q
    have : b.findIdx (· == 10) = b.length := Nat.le_antisymm (List.findIdx_le_length) (by omega)
    rw [List.findIdx_eq_length] at this
    intro x hx
    have := this x hx
    simpa using this
theorem noB_all {c : UInt8} {l : List UInt8} (h : noB c l) : (l.all fun b => b != c) = true := by
  rw [List.all_eq_true]
  intro b hb
  simpa using h b hb
theorem idx10 (l : List UInt8) : indexByte l 10 = match cutN l with | some m => (m.length : Int) | none => -1 := by
  cases h : cutN l with
  | none => exact idx_no 10 l (noB_all (cutN_none' h))
  | some m =>
    obtain ⟨h1, r, rfl⟩ := cutN_iff.1 h
    exact idx_in 10 m r (noB_all h1)
theorem IsB.pre {l : List UInt8} {a : Option Addr} {n c : Nat} {w : World} (h : IsB l (.slice a n c) w) (j : Nat) (hj : j ≤ n) : IsB (l.take j) (.slice a j c) w := by
  obtain ⟨a', c', e, h2, h3, h4, h5⟩ := h
  injection e with e1 e2 e3
  subst e1 e2 e3
  have hlen : (l.take j).length = j := by rw [List.length_take]; omega
  refine ⟨a, c, by rw [hlen], by rw [hlen]; omega, h3, fun k hk => ?_, h5⟩
  obtain ⟨b, off, e, hlt, hc⟩ := h4 k (by rw [hlen] at hk; omega)
  exact ⟨b, off, e, hlt, fun q u hu => hc q u (by rw [← hu]; simp)⟩
theorem cut_v (l : List UInt8) (v : Value) (S : Nat) (w : World) (h : IsB l v w) (hl : l.length ≤ 4294967280) (hS : w.cell? ⟨S, 0, none⟩ = some (.int .u8 10)) :
    Calls Tryz.prog 61 #[v, .slice (some ⟨S, 0, none⟩) 1 1] w fun e w' => (∃ v1 v2 f m, e = .returned (.tuple #[v1, v2, .bool f]) ∧ Hid (IsB m v1 w') ∧ Hid ((cutN l = some m ∧ f = true) ∨ (cutN l = none ∧ m = l ∧ f = false)) ∧ Hid (∃ a n c, v2 = .slice a n c)) ∧ Below w.heap.size w w' := by
  obtain ⟨a, c, rfl, h2, h3, h4, h5⟩ := id h
  have hidx : Calls Tryz.prog 80 #[.slice a l.length c, .slice (some ⟨S, 0, none⟩) 1 1] w fun e w' => e = .returned (.int .i64 (indexByte l 10)) ∧ ∃ q, w' = w.drewN q := by
    rcases h5 with ⟨rfl, rfl⟩ | ⟨b, off, rfl⟩
    · obtain rfl := List.length_eq_zero_iff.1 (Nat.le_zero.1 h2)
      exact (Tryz.bytes_Index_one_nil S 0 1 10 w hS).mono fun e w' ⟨h1, h2⟩ => ⟨h1, 0, h2⟩
    · have hz : (numsU l).length = l.length := by unfold numsU; simp
      have := Tryz.bytes_Index_one_at ⟨b, off, none⟩ l.length c S 0 1 (numsU l) 10 w hz (fun i hi => by
        obtain ⟨b', off', e, hc, _⟩ := h4.byte i hi
        simp only [Option.some.injEq, Addr.mk.injEq, and_true] at e
        obtain ⟨rfl, rfl⟩ := e
        have ea : (⟨b, off, none⟩ : Addr).add i = ⟨b, off + i, none⟩ := by cases i <;> simp [Addr.add]
        rw [ea, hc]
        simp [numsU, hi]) hS
      rw [numsU_of] at this
      exact this.mono fun e w' ⟨h1, h2⟩ => ⟨h1, 0, h2⟩
  have hr := idx10 l
  have hb : -1 ≤ indexByte l 10 ∧ (0 ≤ indexByte l 10 → indexByte l 10 + (1 : Nat) ≤ l.length) := by
    rw [hr]
    cases hc : cutN l with
    | none => exact ⟨by decide, fun h => by simp at h⟩
    | some m =>
      obtain ⟨_, r, e⟩ := cutN_iff.1 hc
      have := congrArg List.length e
      simp at this
      simp only
      exact ⟨by omega, fun _ => by omega⟩
  refine (Tryz.bytes_Cut_of a (some ⟨S, 0, none⟩) l.length c 1 1 (indexByte l 10) w h2 hb.1 hb.2 (by omega) hidx).mono ?_
  rintro e w' ⟨rfl, q, rfl⟩
  rw [hr]
  refine ⟨?_, below_drewN (Below.refl _ _) _⟩
  cases hc : cutN l with
  | none =>
    refine ⟨.slice a l.length c, .slice none 0 0, false, l, by simp [Lib.cutV], Lib.hid (h.up (below_drewN (Below.refl _ _) q)), Lib.hid (.inr ⟨rfl, rfl, rfl⟩), Lib.hid ⟨_, _, _, rfl⟩⟩
  | some m =>
    obtain ⟨_, r, e⟩ := cutN_iff.1 hc
    have hm : m.length ≤ l.length := by have := congrArg List.length e; simp at this; omega
    have hs := (h.up (below_drewN (Below.refl _ _) q : Below w.heap.size w (w.drewN q))).pre m.length hm
    have ht : l.take m.length = m := by rw [e, List.take_left]
    rw [ht] at hs
    exact ⟨.slice a m.length c, Lib.fromV a l.length c (m.length + 1), true, m, by simp [Lib.cutV], Lib.hid hs, Lib.hid (.inl ⟨rfl, rfl⟩), Lib.hid ⟨_, _, _, rfl⟩⟩
def spB : ByteArray := ⟨#[32]⟩
theorem split_plain : ∀ (k : Nat) (s : ByteArray), Lib.countB s spB = k → (Lib.splitB spB 0 k s).map by_ = splitB 32 (by_ s) := by
  have key : ∀ s : ByteArray, (noB 32 (by_ s) ∧ Lib.indexB s spB = -1) ∨ ∃ a r, noB 32 a ∧ by_ s = a ++ 32 :: r ∧ Lib.indexB s spB = (a.length : Int) := by
    intro s
    have e0 : Lib.indexB s spB = indexByte (by_ s) 32 := Lib.index_one _ _
    cases hs : splitB 32 (by_ s) with
    | nil => exact absurd hs (splitB_ne _ _)
    | cons a ws =>
      obtain ⟨ha, ⟨_, h2⟩ | ⟨r, _, h2⟩⟩ := splitB_back hs
      · rw [← h2] at ha
        exact .inl ⟨ha, by rw [e0]; exact idx_no 32 _ (noB_all ha)⟩
      · exact .inr ⟨a, r, ha, h2, by rw [e0, h2]; exact idx_in 32 a r (noB_all ha)⟩
  intro k
  induction k with
  | zero =>
    intro s hk
    rcases key s with ⟨h1, _⟩ | ⟨a, r, h1, h2, h3⟩
    · rw [Lib.splitB_zero, splitB_no h1]
      rfl
    · have := Lib.countB_hit s spB a.length (by decide) h3
      omega
  | succ k ih =>
    intro s hk
    rcases key s with ⟨_, h2⟩ | ⟨a, r, h1, h2, h3⟩
    · rw [Lib.countB_miss s spB h2] at hk
      omega
    · have hc := Lib.countB_hit s spB a.length (by decide) h3
      have e1 : by_ (s.extract 0 (a.length + 0)) = a := by
        show (s.extract 0 (a.length + 0)).data.toList = a
        rw [Lib.extract_data, show s.data.toList = a ++ 32 :: r from h2]
        simp
      have e2 : by_ (s.extract (a.length + spB.size) s.size) = r := by
        show (s.extract (a.length + spB.size) s.size).data.toList = r
        rw [Lib.extract_data, show s.data.toList = a ++ 32 :: r from h2, show spB.size = 1 from rfl]
        have hz : s.size = a.length + (r.length + 1) := by
          have := congrArg List.length h2
          rw [by_len] at this
          simpa using this
        have hd : (a ++ 32 :: r).drop (a.length + 1) = r := by
          rw [show a ++ 32 :: r = (a ++ [32]) ++ r by simp, List.drop_left' (by simp)]
        rw [hz, hd, List.take_of_length_le (by omega)]
      rw [Lib.splitB_hit spB 0 k s a.length h3, List.map_cons, e1, ih _ (by omega), e2, h2, splitB_at r h1]
theorem split_v (s : ByteArray) (hs : s.size ≤ 4294967280) (w : World) (h : Env w) :
    Calls Tryz.prog 62 #[.string s, .string ⟨#[32]⟩] w fun e w' => (∃ ws : List ByteArray, e = .returned (.slice (some ⟨w.heap.size, 0, none⟩) ws.length ws.length) ∧ Hid (ws.map by_ = splitB 32 (by_ s)) ∧ Hid (RowAt encS 1 w'.heap.size w' (some ⟨w.heap.size, 0, none⟩) ws)) ∧ Below w.heap.size w w' := by
  obtain ⟨m, hm⟩ := h.mx
  refine (Tryz.strings_Split s spB m w (by omega) hm (by decide)).mono ?_
  rintro e w' ⟨rfl, rfl⟩
  have hp := split_plain _ s rfl
  have hl := Lib.splitB_all spB (by decide) 0 _ s rfl
  refine ⟨⟨Lib.splitB spB 0 (Lib.countB s spB) s, by rw [hl], Lib.hid hp, Lib.hid ?_⟩, below_al (Below.refl _ _) _⟩
  generalize Lib.splitB spB 0 (Lib.countB s spB) s = ws at *
  intro k hk
  refine ⟨w.heap.size, 0, rfl, (At.new w _ _).lt, fun j u hu => ?_⟩
  have hj : j = 0 := by have := (List.getElem?_eq_some_iff.1 hu).1; rw [encS_len] at this; omega
  subst hj
  rw [cell_of_row _ w.heap.size (0 + k * 1 + 0) _ 9 (0, 0) (heap_alloc_new w _), ← hu]
  simp [encS, hk]
end Go.Proofs.YtcokobdffbhpeaaGreatDoor
set_option linter.unusedVariables false
namespace Go.Proofs.YtcokobdffbhpeaaGreatDoor
open Go.ChangeShapes Go.WideShapes Go.ChangeAt Go.RowKit
open Go.Lib (decDigits itoa itoa_nonneg)
theorem At.c0' {w : World} {g : Nat} {t : TypeId} {x y z : Value} (h : At w g t #[x, y, z]) : w.cell? ⟨g, 0, none⟩ = some x := h.c 0
theorem At.c1' {w : World} {g : Nat} {t : TypeId} {x y z : Value} (h : At w g t #[x, y, z]) : w.cell? ⟨g, 1, none⟩ = some y := h.c 1
theorem At.c2' {w : World} {g : Nat} {t : TypeId} {x y z : Value} (h : At w g t #[x, y, z]) : w.cell? ⟨g, 2, none⟩ = some z := h.c 2
theorem regrown_tab {f : FuncId} {args : Array Value} {w : World} {d : Nat} {os : Array Obj} {v : Value} (ht : Tab w)
    (h : ∀ W : World, Tab W → Calls Tryz.prog f args W fun e w' => e = .returned v ∧ Below W.heap.size W w') : Calls Tryz.prog f args (Go.Sort.grow (redrawn w d) os) fun e w'' => e = .returned v ∧ ∃ p : Regrown, w'' = Go.Sort.grow (redrawn w p.d) p.os :=
  Calls.regrown_of (h _ (ht.bel (below_regrown _ _ _)))
theorem itoa_len {n : Int} (h : -9223372036854775808 ≤ n ∧ n ≤ 9223372036854775807) : (⟨(itoa n).toArray⟩ : ByteArray).size ≤ 21 := by
  rw [mk_size]
  exact Lib.itoa_length_le n h.1 h.2
def lineS (d k : Int) (nm : ByteArray) : ByteArray := (⟨(itoa d).toArray⟩ : ByteArray) ++ ⟨#[32]⟩ ++ ⟨(itoa k).toArray⟩ ++ ⟨#[32]⟩ ++ nm ++ ⟨#[32]⟩
theorem lineS_by (d k : Int) (nm : ByteArray) : by_ (lineS d k nm) = lineE ⟨d, k, nm⟩ := by
  unfold lineS lineE
  simp only [by_append, by_dot]
  simp
theorem lineS_size {d k : Int} {nm : ByteArray} (hd : -9223372036854775808 ≤ d ∧ d ≤ 9223372036854775807) (hk : -9223372036854775808 ≤ k ∧ k ≤ 9223372036854775807) : (lineS d k nm).size ≤ nm.size + 45 := by
  have h1 := itoa_len hd
  have h2 := itoa_len hk
  have e : ((⟨#[32]⟩ : ByteArray)).size = 1 := rfl
  unfold lineS
  simp only [ByteArray.size_append, e]
  omega
theorem recS_by (p : List UInt8) (x : Ent) (L : ByteArray) (hL : by_ L = lineE x) : by_ (L ++ ⟨(itoa (sumF (sumB p) (lineE x) : Nat)).toArray⟩ ++ ⟨#[10]⟩) = recE p x := by
  simp only [by_append, mk_by, hL]
  unfold recE
  rw [itoa_nonneg]
  simp
set_option maxRecDepth 100000 in
set_option maxHeartbeats 2000000 in
theorem record_v (p : List UInt8) (v : Value) (d k : Int) (nm : ByteArray) (hd : -9223372036854775808 ≤ d ∧ d ≤ 9223372036854775807) (hk : -9223372036854775808 ≤ k ∧ k ≤ 9223372036854775807) (hn : nm.size ≤ 10000) (w : World) (ht : Tab w) (hp : IsB p v w) :
    Calls Tryz.prog 24 #[v, .agg #[.int .i64 d, .int .i64 k, .string nm]] w fun e w' => (∃ y, e = .returned y ∧ Hid (IsB (recE p ⟨d, k, nm⟩) y w')) ∧ Below w.heap.size w w' := by
  obtain ⟨a, n, c, rfl, -, -⟩ := hp.shape
  have HA : Hid (∀ w, Tab w → _) := Lib.hid (fun w (hw : Tab w) => itoa_tab d hd w hw)
  have HD : Hid (∀ w, Tab w → _) := Lib.hid (fun w (hw : Tab w) => itoa_tab k hk w hw)
  have bA := itoa_len hd
  have bD := itoa_len hk
  have hls := lineS_size (nm := nm) hd hk
  have hlb := Lib.hid (lineS_by d k nm)
  have hld : lineS d k nm = (⟨(itoa d).toArray⟩ : ByteArray) ++ ⟨#[32]⟩ ++ ⟨(itoa k).toArray⟩ ++ ⟨#[32]⟩ ++ nm ++ ⟨#[32]⟩ := rfl
  generalize (⟨(itoa d).toArray⟩ : ByteArray) = sA at *
  generalize (⟨(itoa k).toArray⟩ : ByteArray) = sD at *
  obtain ⟨L, hL⟩ : ∃ L, lineS d k nm = L := ⟨_, rfl⟩
  rw [hL] at hls hlb hld
  replace hld := Lib.hid hld
  have ht' := Lib.hid ht
  have hp' := Lib.hid hp
  clear ht hp hL
  go_enter Tryz.func24, Tryz.ntmps24
  go_wp2_with fail
  generalize hWW : World.alloc _ _ = WW
  have kx : At WW w.heap.size 39 #[.int .i64 d, .int .i64 k, .string nm] := by rw [← hWW]; exact At.new' rfl
  have HB : Below w.heap.size w WW := by rw [← hWW]; exact below_al (Below.refl _ _) _
  have tWW := Lib.hid (ht'.out.bel HB)
  replace hp' := Lib.hid (hp'.out.up HB)
  clear hWW ht'
  have K0 := cell_regrown kx.c0'
  have K1 := cell_regrown kx.c1'
  have K2 := cell_regrown kx.c2'
  refine wp_region_quiet_below (by kernel_rfl) (by kernel_rfl) ?_
  repeat (go_big_quiet_step ((first | with_reducible exact regrown_tab tWW.out HA.out | with_reducible exact regrown_tab tWW.out HD.out)))
  refine wpQuiet_nil ?_
  intro v1 hb1'
  have hb1 := below_of_regrown hb1'
  clear hb1' K0 K1 K2
  rw [← hld.out]
  replace hp' := Lib.hid (hp'.out.up hb1)
  have t1 := Lib.hid (tWW.out.bel hb1)
  replace HB := below_then HB hb1
  clear hb1 tWW kx HA HD hld
  have HS := Lib.hid (sum_v p _ v1 hp'.out)
  obtain ⟨s0, hs0⟩ : ∃ s0, sumB p = s0 := ⟨_, rfl⟩
  have hlt := sumB_lt p
  rw [hs0] at HS hlt
  go_wp2_with fail
  refine HS.out.mono ?_
  rintro e wn ⟨rfl, rfl⟩
  obtain ⟨c1, o1, hcv, hB1⟩ := conv_bytes v1 L (by omega)
  have hb2 : Below v1.heap.size v1 (v1.drew.alloc o1) := below_al (below_drew (Below.refl _ _)) _
  have HF := Lib.hid (further_v (by_ L) _ s0 hlt _ hB1)
  obtain ⟨s1, hs1⟩ : ∃ s1, sumF s0 (by_ L) = s1 := ⟨_, rfl⟩
  have hlt1 := sumF_lt (by_ L) s0 hlt
  rw [hs1] at HF hlt1
  have t2 := Lib.hid (t1.out.bel hb2)
  replace HB := below_then HB hb2
  replace hs0 := Lib.hid hs0
  replace hs1 := Lib.hid hs1
  have bS := itoa_len (n := (s1 : Int)) (by omega)
  have HI : Hid (∀ w, Tab w → _) := Lib.hid (fun w (hw : Tab w) => itoa_tab (s1 : Int) (by omega) w hw)
  have hrec : Hid (by_ (L ++ ⟨(itoa (s1 : Int)).toArray⟩ ++ ⟨#[10]⟩) = recE p ⟨d, k, nm⟩) := Lib.hid (by
    have := recS_by p ⟨d, k, nm⟩ L hlb.out
    rw [← hlb.out, hs0.out, hs1.out] at this
    exact this)
  generalize (⟨(itoa (s1 : Int)).toArray⟩ : ByteArray) = sS at *
  replace hlt1 := Lib.hid hlt1
  clear hlt hb2 hB1 HS t1 hp'
  go_wp2_with fail
  refine HF.out.mono ?_
  rintro e wn ⟨rfl, rfl⟩
  clear HF
  go_wp2_with fail
  refine (HI.out _ t2.out).mono ?_
  rintro e w5 ⟨rfl, hb5⟩
  replace HB := below_then HB hb5
  clear hb5 HI t2 hcv
  have hz : (L ++ sS ++ (⟨#[10]⟩ : ByteArray)).size ≤ 1000000 := by
    have e1 : ((⟨#[10]⟩ : ByteArray)).size = 1 := rfl
    simp only [ByteArray.size_append, e1]
    omega
  obtain ⟨c2, o2, hcv, hB2⟩ := conv_bytes w5 (L ++ sS ++ ⟨#[10]⟩) hz
  have hb6 : Below w5.heap.size w5 (w5.drew.alloc o2) := below_al (below_drew (Below.refl _ _)) _
  replace HB := below_then HB hb6
  have hZ : (L ++ sS ++ (⟨#[10]⟩ : ByteArray)).size = L.size + sS.size + 1 := by
    have e1 : ((⟨#[10]⟩ : ByteArray)).size = 1 := rfl
    simp only [ByteArray.size_append, e1]
  rw [hrec.out, hZ] at hB2
  replace hB2 := Lib.hid hB2
  clear hb6 hz
  go_wp2_with fail
  go_ret
  exact ⟨⟨_, rfl, hB2⟩, HB⟩
def lastI (c : UInt8) (l : List UInt8) : Int := (l.length : Int) - 1 - (l.reverse.takeWhile (· != c)).length
theorem lastI_at {c : UInt8} {u t : List UInt8} (h : noB c t) : lastI c (u ++ c :: t) = (u.length : Int) := by
  unfold lastI
  have : ((u ++ c :: t).reverse.takeWhile (· != c)) = t.reverse := by
    rw [List.reverse_append, List.reverse_cons, List.append_assoc, List.takeWhile_append_of_pos (by
      intro b hb
      have := h b (by simpa using hb)
      simpa using this)]
    simp
  rw [this]
  simp
  omega
theorem lastI_none {c : UInt8} {l : List UInt8} (h : noB c l) : lastI c l = -1 := by
  unfold lastI
  have : l.reverse.takeWhile (· != c) = l.reverse := by
    have := List.takeWhile_append_of_pos (p := (· != c)) (l₁ := l.reverse) (l₂ := []) (by
      intro b hb
      have := h b (by simpa using hb)
      simpa using this)
    simpa using this
  rw [this]
  simp
  omega
set_option maxRecDepth 100000 in
set_option maxHeartbeats 1000000 in
theorem last_alg (l : List UInt8) (v : Value) (w : World) (h : IsB l v w) :
    Calls Tryz.prog 64 #[v, .int .u8 32] w fun e w' => e = .returned (.int .i64 (lastI 32 l)) ∧ w = w' := by
  obtain ⟨ao, cap, rfl, hl, hc, ha, _⟩ := h
  obtain ⟨R, hR⟩ : ∃ R, lastI 32 l = R := ⟨_, rfl⟩
  rw [hR]
  replace hR := Lib.hid hR
  obtain ⟨n, hn⟩ : ∃ n, l.length = n := ⟨_, rfl⟩
  rw [hn] at hl ⊢
  replace hn := Lib.hid hn
  replace ha := Lib.hid ha
  have w0 : IntKind.i64.wrap ((n : Int) - 1) = (n : Int) - 1 := IntWalk.i64_in _ (by omega)
  go_enter Tryz.func64, Tryz.ntmps64
  go_wp2_with fail
  go_loopg [5] (n + 1) (fun g i wr => ∃ (k : Nat), k ≤ n ∧ i = .int .i64 ((k : Int) - 1) ∧ Hid (g = k + 1 ∧ noB 32 (l.drop k)) ∧ w = wr)
  case atStart => exact ⟨n, Nat.le_refl _, rfl, Lib.hid ⟨rfl, by rw [← hn.out, List.drop_length]; exact noB_nil _⟩, rfl⟩
  case round =>
    obtain ⟨k, hk, rfl, hr, rfl⟩ := hrel
    cases k with
    | zero =>
      have hE : Hid (R = -1) := Lib.hid (by
        rw [← hR.out]
        exact lastI_none (by simpa using hr.out.2))
      go_wp2_with fail
      go_ret
      exact ⟨by rw [hE.out]; rfl, rfl⟩
    | succ j =>
      have hkl : Hid (j < l.length) := Lib.hid (by rw [hn.out]; omega)
      obtain ⟨b, off, rfl, c0, hb⟩ := ha.out.byte j hkl.out
      obtain ⟨c, hc0⟩ : ∃ c, l[j]'hkl.out = c := ⟨_, rfl⟩
      rw [hc0] at c0
      have ej : ((j + 1 : Nat) : Int) - 1 = (j : Int) := by omega
      rw [ej]
      have w1 : IntKind.i64.wrap ((j : Int) - 1) = (j : Int) - 1 := IntWalk.i64_in _ (by omega)
      by_cases he : c = 32
      · have hE : Hid (R = (j : Int)) := Lib.hid (by
          have h1 := List.take_append_drop j l
          rw [List.drop_eq_getElem_cons hkl.out, hc0, he] at h1
          have h2 := lastI_at (u := l.take j) hr.out.2
          rw [h1, List.length_take, hR.out] at h2
          have := hkl.out
          omega)
        have he1 : ((c.toNat : Int) == 32) = true := by rw [he]; rfl
        generalize c.toNat = cn at *
        clear hc0 hb he
        go_wp2_with fail
        go_ret
        exact ⟨by rw [hE.out]; first | rfl | (congr 2; go_num), rfl⟩
      · have he1 : ((c.toNat : Int) == 32) = false := by
          rw [beq_eq_false_iff_ne]
          intro h
          apply he
          apply UInt8.toNat_inj.1
          have : (32 : UInt8).toNat = 32 := rfl
          omega
        have hS : Hid (noB 32 (l.drop j)) := Lib.hid (by
          rw [List.drop_eq_getElem_cons hkl.out, hc0]
          exact noB_cons.2 ⟨he, hr.out.2⟩)
        generalize c.toNat = cn at *
        clear hc0 hb he
        go_wp2_with fail
        go_roundg (j + 1)
        case measure => have := hr.out.1; omega
        case rel => exact ⟨j, by omega, by go_num, Lib.hid ⟨rfl, hS.out⟩, rfl⟩
set_option maxRecDepth 100000 in
theorem last_v (l : List UInt8) (v : Value) (w : World) (h : IsB l v w) :
    Calls Tryz.prog 46 #[v, .int .u8 32] w fun e w' => e = .returned (.int .i64 (lastI 32 l)) ∧ w = w' := by
  obtain ⟨a, n, c, rfl, -, -⟩ := h.shape
  have H := Lib.hid (last_alg l _ w h)
  generalize lastI 32 l = R at *
  clear h
  go_enter Tryz.func46, Tryz.ntmps46
  go_wp2_with fail
  refine H.out.mono ?_
  rintro e w1 ⟨rfl, rfl⟩
  go_wp2_with fail
  go_ret
  exact ⟨rfl, rfl⟩
end Go.Proofs.YtcokobdffbhpeaaGreatDoor
