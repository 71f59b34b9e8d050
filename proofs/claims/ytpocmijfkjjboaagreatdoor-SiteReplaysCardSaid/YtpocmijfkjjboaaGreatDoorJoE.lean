/- journal: a record; where a byte stands last. -/
import Derived.Test.YtpocmijfkjjboaaGreatDoorJoD
set_option linter.unusedVariables false
namespace Go.Proofs.YtpocmijfkjjboaaGreatDoor
open Go.ChangeShapes Go.WideShapes Go.ChangeAt Go.RowKit

open Go.Lib (decDigits itoa itoa_nonneg)
theorem At.c0' {w : World} {g : Nat} {t : TypeId} {x y z : Value} (h : At w g t #[x, y, z]) : w.cell? ⟨g, 0, none⟩ = some x := h.c 0
theorem At.c1' {w : World} {g : Nat} {t : TypeId} {x y z : Value} (h : At w g t #[x, y, z]) : w.cell? ⟨g, 1, none⟩ = some y := h.c 1
theorem At.c2' {w : World} {g : Nat} {t : TypeId} {x y z : Value} (h : At w g t #[x, y, z]) : w.cell? ⟨g, 2, none⟩ = some z := h.c 2
theorem regrown_tab {f : FuncId} {args : Array Value} {w : World} {d : Nat} {os : Array Obj} {v : Value} (ht : Tab w)
    (h : ∀ W : World, Tab W → Calls Tryz.prog f args W fun e w' => e = .returned v ∧ Below W.heap.size W w') : Calls Tryz.prog f args (Go.Sort.grow (redrawn w d) os) fun e w'' => e = .returned v ∧ ∃ p : Regrown, w'' = Go.Sort.grow (redrawn w p.d) p.os :=
  Calls.regrown_of (h _ (ht.bel (below_regrown _ _ _)))
theorem itoa_len {n : Int} (h : -9223372036854775808 ≤ n ∧ n ≤ 9223372036854775807) : (⟨(itoa n).toArray⟩ : ByteArray).size ≤ 21 := by
  rw [mk_size]
  exact Lib.itoa_length_le n h.1 h.2
/-- The line of an entry, as a string. -/
def lineS (d k : Int) (nm : ByteArray) : ByteArray := (⟨(itoa d).toArray⟩ : ByteArray) ++ ⟨#[32]⟩ ++ ⟨(itoa k).toArray⟩ ++ ⟨#[32]⟩ ++ nm ++ ⟨#[32]⟩
theorem lineS_by (d k : Int) (nm : ByteArray) : by_ (lineS d k nm) = lineE ⟨d, k, nm⟩ := by
  unfold lineS lineE
  simp only [by_append, by_dot]
  simp
theorem lineS_size {d k : Int} {nm : ByteArray} (hd : -9223372036854775808 ≤ d ∧ d ≤ 9223372036854775807) (hk : -9223372036854775808 ≤ k ∧ k ≤ 9223372036854775807) : (lineS d k nm).size ≤ nm.size + 45 := by
  have h1 := itoa_len hd
  have h2 := itoa_len hk
  have e : ((⟨#[32]⟩ : ByteArray)).size = 1 := rfl
  unfold lineS
  simp only [ByteArray.size_append, e]
  omega
theorem recS_by (p : List UInt8) (x : Ent) (L : ByteArray) (hL : by_ L = lineE x) : by_ (L ++ ⟨(itoa (sumF (sumB p) (lineE x) : Nat)).toArray⟩ ++ ⟨#[10]⟩) = recE p x := by
  simp only [by_append, mk_by, hL]
  unfold recE
  rw [itoa_nonneg]
  simp

set_option maxRecDepth 100000 in
set_option maxHeartbeats 2000000 in
theorem record_v (p : List UInt8) (v : Value) (d k : Int) (nm : ByteArray) (hd : -9223372036854775808 ≤ d ∧ d ≤ 9223372036854775807) (hk : -9223372036854775808 ≤ k ∧ k ≤ 9223372036854775807) (hn : nm.size ≤ 10000) (w : World) (ht : Tab w) (hp : IsB p v w) :
    Calls Tryz.prog 38 #[v, .agg #[.int .i64 d, .int .i64 k, .string nm]] w fun e w' => (∃ y, e = .returned y ∧ Hid (IsB (recE p ⟨d, k, nm⟩) y w')) ∧ Below w.heap.size w w' := by
  obtain ⟨a, n, c, rfl, -, -⟩ := hp.shape
  have HA : Hid (∀ w, Tab w → _) := Lib.hid (fun w (hw : Tab w) => itoa_tab d hd w hw)
  have HD : Hid (∀ w, Tab w → _) := Lib.hid (fun w (hw : Tab w) => itoa_tab k hk w hw)
  have bA := itoa_len hd
  have bD := itoa_len hk
  have hls := lineS_size (nm := nm) hd hk
  have hlb := Lib.hid (lineS_by d k nm)
  have hld : lineS d k nm = (⟨(itoa d).toArray⟩ : ByteArray) ++ ⟨#[32]⟩ ++ ⟨(itoa k).toArray⟩ ++ ⟨#[32]⟩ ++ nm ++ ⟨#[32]⟩ := rfl
  generalize (⟨(itoa d).toArray⟩ : ByteArray) = sA at *
  generalize (⟨(itoa k).toArray⟩ : ByteArray) = sD at *
  obtain ⟨L, hL⟩ : ∃ L, lineS d k nm = L := ⟨_, rfl⟩
  rw [hL] at hls hlb hld
  replace hld := Lib.hid hld
  have ht' := Lib.hid ht
  have hp' := Lib.hid hp
  clear ht hp hL
  go_enter Tryz.func38, Tryz.ntmps38
  go_wp2_with fail
  generalize hWW : World.alloc _ _ = WW
  have kx : At WW w.heap.size 39 #[.int .i64 d, .int .i64 k, .string nm] := by rw [← hWW]; exact At.new' rfl
  have HB : Below w.heap.size w WW := by rw [← hWW]; exact below_al (Below.refl _ _) _
  have tWW := Lib.hid (ht'.out.bel HB)
  replace hp' := Lib.hid (hp'.out.up HB)
  clear hWW ht'
  have K0 := cell_regrown kx.c0'
  have K1 := cell_regrown kx.c1'
  have K2 := cell_regrown kx.c2'
  refine wp_region_quiet_below (by kernel_rfl) (by kernel_rfl) ?_
  repeat (go_big_quiet_step ((first | with_reducible exact regrown_tab tWW.out HA.out | with_reducible exact regrown_tab tWW.out HD.out)))
  refine wpQuiet_nil ?_
  intro v1 hb1'
  have hb1 := below_of_regrown hb1'
  clear hb1' K0 K1 K2
  rw [← hld.out]
  replace hp' := Lib.hid (hp'.out.up hb1)
  have t1 := Lib.hid (tWW.out.bel hb1)
  replace HB := below_then HB hb1
  clear hb1 tWW kx HA HD hld
  have HS := Lib.hid (sum_v p _ v1 hp'.out)
  obtain ⟨s0, hs0⟩ : ∃ s0, sumB p = s0 := ⟨_, rfl⟩
  have hlt := sumB_lt p
  rw [hs0] at HS hlt
  go_wp2_with fail
  refine HS.out.mono ?_
  rintro e wn ⟨rfl, rfl⟩
  obtain ⟨c1, o1, hcv, hB1⟩ := conv_bytes v1 L (by omega)
  have hb2 : Below v1.heap.size v1 (v1.drew.alloc o1) := below_al (below_drew (Below.refl _ _)) _
  have HF := Lib.hid (further_v (by_ L) _ s0 hlt _ hB1)
  obtain ⟨s1, hs1⟩ : ∃ s1, sumF s0 (by_ L) = s1 := ⟨_, rfl⟩
  have hlt1 := sumF_lt (by_ L) s0 hlt
  rw [hs1] at HF hlt1
  have t2 := Lib.hid (t1.out.bel hb2)
  replace HB := below_then HB hb2
  replace hs0 := Lib.hid hs0
  replace hs1 := Lib.hid hs1
  have bS := itoa_len (n := (s1 : Int)) (by omega)
  have HI : Hid (∀ w, Tab w → _) := Lib.hid (fun w (hw : Tab w) => itoa_tab (s1 : Int) (by omega) w hw)
  have hrec : Hid (by_ (L ++ ⟨(itoa (s1 : Int)).toArray⟩ ++ ⟨#[10]⟩) = recE p ⟨d, k, nm⟩) := Lib.hid (by
    have := recS_by p ⟨d, k, nm⟩ L hlb.out
    rw [← hlb.out, hs0.out, hs1.out] at this
    exact this)
  generalize (⟨(itoa (s1 : Int)).toArray⟩ : ByteArray) = sS at *
  replace hlt1 := Lib.hid hlt1
  clear hlt hb2 hB1 HS t1 hp'
  go_wp2_with fail
  refine HF.out.mono ?_
  rintro e wn ⟨rfl, rfl⟩
  clear HF
  go_wp2_with fail
  refine (HI.out _ t2.out).mono ?_
  rintro e w5 ⟨rfl, hb5⟩
  replace HB := below_then HB hb5
  clear hb5 HI t2 hcv
  have hz : (L ++ sS ++ (⟨#[10]⟩ : ByteArray)).size ≤ 1000000 := by
    have e1 : ((⟨#[10]⟩ : ByteArray)).size = 1 := rfl
    simp only [ByteArray.size_append, e1]
    omega
  obtain ⟨c2, o2, hcv, hB2⟩ := conv_bytes w5 (L ++ sS ++ ⟨#[10]⟩) hz
  have hb6 : Below w5.heap.size w5 (w5.drew.alloc o2) := below_al (below_drew (Below.refl _ _)) _
  replace HB := below_then HB hb6
  have hZ : (L ++ sS ++ (⟨#[10]⟩ : ByteArray)).size = L.size + sS.size + 1 := by
    have e1 : ((⟨#[10]⟩ : ByteArray)).size = 1 := rfl
    simp only [ByteArray.size_append, e1]
  rw [hrec.out, hZ] at hB2
  replace hB2 := Lib.hid hB2
  clear hb6 hz
  go_wp2_with fail
  go_ret
  exact ⟨⟨_, rfl, hB2⟩, HB⟩

/-- Where c stands last, -1 if nowhere. -/
def lastI (c : UInt8) (l : List UInt8) : Int := (l.length : Int) - 1 - (l.reverse.takeWhile (· != c)).length
theorem lastI_at {c : UInt8} {u t : List UInt8} (h : noB c t) : lastI c (u ++ c :: t) = (u.length : Int) := by
  unfold lastI
  have : ((u ++ c :: t).reverse.takeWhile (· != c)) = t.reverse := by
    rw [List.reverse_append, List.reverse_cons, List.append_assoc, List.takeWhile_append_of_pos (by
      intro b hb
      have := h b (by simpa using hb)
      simpa using this)]
    simp
  rw [this]
  simp
  omega
theorem lastI_none {c : UInt8} {l : List UInt8} (h : noB c l) : lastI c l = -1 := by
  unfold lastI
  have : l.reverse.takeWhile (· != c) = l.reverse := by
    have := List.takeWhile_append_of_pos (p := (· != c)) (l₁ := l.reverse) (l₂ := []) (by
      intro b hb
      have := h b (by simpa using hb)
      simpa using this)
    simpa using this
  rw [this]
  simp
  omega
set_option maxRecDepth 100000 in
set_option maxHeartbeats 1000000 in
theorem last_alg (l : List UInt8) (v : Value) (w : World) (h : IsB l v w) :
    Calls Tryz.prog 65 #[v, .int .u8 32] w fun e w' => e = .returned (.int .i64 (lastI 32 l)) ∧ w = w' := by
  obtain ⟨ao, cap, rfl, hl, hc, ha, _⟩ := h
  obtain ⟨R, hR⟩ : ∃ R, lastI 32 l = R := ⟨_, rfl⟩
  rw [hR]
  replace hR := Lib.hid hR
  obtain ⟨n, hn⟩ : ∃ n, l.length = n := ⟨_, rfl⟩
  rw [hn] at hl ⊢
  replace hn := Lib.hid hn
  replace ha := Lib.hid ha
  have w0 : IntKind.i64.wrap ((n : Int) - 1) = (n : Int) - 1 := IntWalk.i64_in _ (by omega)
  go_enter Tryz.func65, Tryz.ntmps65
  go_wp2_with fail
  go_loopg [5] (n + 1) (fun g i wr => ∃ (k : Nat), k ≤ n ∧ i = .int .i64 ((k : Int) - 1) ∧ Hid (g = k + 1 ∧ noB 32 (l.drop k)) ∧ w = wr)
  case atStart => exact ⟨n, Nat.le_refl _, rfl, Lib.hid ⟨rfl, by rw [← hn.out, List.drop_length]; exact noB_nil _⟩, rfl⟩
  case round =>
    obtain ⟨k, hk, rfl, hr, rfl⟩ := hrel
    cases k with
    | zero =>
      have hE : Hid (R = -1) := Lib.hid (by
        rw [← hR.out]
        exact lastI_none (by simpa using hr.out.2))
      go_wp2_with fail
      go_ret
      exact ⟨by rw [hE.out]; rfl, rfl⟩
    | succ j =>
      have hkl : Hid (j < l.length) := Lib.hid (by rw [hn.out]; omega)
      obtain ⟨b, off, rfl, c0, hb⟩ := ha.out.byte j hkl.out
      obtain ⟨c, hc0⟩ : ∃ c, l[j]'hkl.out = c := ⟨_, rfl⟩
      rw [hc0] at c0
      have ej : ((j + 1 : Nat) : Int) - 1 = (j : Int) := by omega
      rw [ej]
      have w1 : IntKind.i64.wrap ((j : Int) - 1) = (j : Int) - 1 := IntWalk.i64_in _ (by omega)
      by_cases he : c = 32
      · have hE : Hid (R = (j : Int)) := Lib.hid (by
          have h1 := List.take_append_drop j l
          rw [List.drop_eq_getElem_cons hkl.out, hc0, he] at h1
          have h2 := lastI_at (u := l.take j) hr.out.2
          rw [h1, List.length_take, hR.out] at h2
          have := hkl.out
          omega)
        have he1 : ((c.toNat : Int) == 32) = true := by rw [he]; rfl
        generalize c.toNat = cn at *
        clear hc0 hb he
        go_wp2_with fail
        go_ret
        exact ⟨by rw [hE.out]; first | rfl | (congr 2; go_num), rfl⟩
      · have he1 : ((c.toNat : Int) == 32) = false := by
          rw [beq_eq_false_iff_ne]
          intro h
          apply he
          apply UInt8.toNat_inj.1
          have : (32 : UInt8).toNat = 32 := rfl
          omega
        have hS : Hid (noB 32 (l.drop j)) := Lib.hid (by
          rw [List.drop_eq_getElem_cons hkl.out, hc0]
          exact noB_cons.2 ⟨he, hr.out.2⟩)
        generalize c.toNat = cn at *
        clear hc0 hb he
        go_wp2_with fail
        go_roundg (j + 1)
        case measure => have := hr.out.1; omega
        case rel => exact ⟨j, by omega, by go_num, Lib.hid ⟨rfl, hS.out⟩, rfl⟩
set_option maxRecDepth 100000 in
theorem last_v (l : List UInt8) (v : Value) (w : World) (h : IsB l v w) :
    Calls Tryz.prog 44 #[v, .int .u8 32] w fun e w' => e = .returned (.int .i64 (lastI 32 l)) ∧ w = w' := by
  obtain ⟨a, n, c, rfl, -, -⟩ := h.shape
  have H := Lib.hid (last_alg l _ w h)
  generalize lastI 32 l = R at *
  clear h
  go_enter Tryz.func44, Tryz.ntmps44
  go_wp2_with fail
  refine H.out.mono ?_
  rintro e w1 ⟨rfl, rfl⟩
  go_wp2_with fail
  go_ret
  exact ⟨rfl, rfl⟩

end Go.Proofs.YtpocmijfkjjboaaGreatDoor
