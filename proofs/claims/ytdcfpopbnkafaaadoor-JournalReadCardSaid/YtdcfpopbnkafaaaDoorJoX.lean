/- journal: counts; a byte that is set; the walk of JournalChanged. -/
import Derived.Test.YtdcfpopbnkafaaaDoorJoU
import Derived.Laws.BitsAllLaws
set_option linter.unusedVariables false
namespace Go.Proofs.YtdcfpopbnkafaaaDoor
open Go.ChangeShapes Go.WideShapes Go.ChangeAt Go.RowKit

/-- A byte of a slice of one's own is set. -/
theorem IsB.set {l : List UInt8} {g cap n : Nat} {w : World} (h : IsB l (.slice (some ⟨g, 0, none⟩) n cap) w) {k : Nat} (hk : k < l.length) (c : UInt8) : IsB (l.set k c) (.slice (some ⟨g, 0, none⟩) n cap) (w.setCell ⟨g, k, none⟩ (.int .u8 (c.toNat : Int))) := by
  obtain ⟨a, c', e, h2, h3, h4, h5⟩ := h
  injection e with e1 e2 e3
  subst e1 e2 e3
  refine ⟨_, cap, by rw [List.length_set], by rw [List.length_set]; exact h2, h3, fun i hi => ?_, .inr ⟨g, 0, rfl⟩⟩
  have hi' : i < l.length := by rw [List.length_set] at hi; exact hi
  obtain ⟨b, off, e, hlt, hc⟩ := h4 i hi'
  simp only [Option.some.injEq, Addr.mk.injEq, and_true] at e
  obtain ⟨rfl, rfl⟩ := e
  refine ⟨g, 0, rfl, by rw [World.size_setCell]; exact hlt, fun j u hu => ?_⟩
  have hj : j = 0 := by have := (List.getElem?_eq_some_iff.1 hu).1; rw [encU_len] at this; omega
  subst hj
  have h0 := hc 0 _ rfl
  have e0 : (0 + i * 1 + 0) = i := by omega
  rw [e0] at h0 ⊢
  by_cases hik : i = k
  · subst hik
    rw [World.cell?_setCell_same _ _ _ h0, ← hu]
    simp [encU]
  · rw [World.cell?_setCell_other _ _ _ _ (fun e => hik (by injection e with _ e2 _; exact e2.symm)), h0, ← hu]
    simp [encU, Ne.symm hik]
theorem IsB.byteAt {l : List UInt8} {g cap n : Nat} {w : World} (h : IsB l (.slice (some ⟨g, 0, none⟩) n cap) w) {k : Nat} (hk : k < l.length) : w.cell? ⟨g, k, none⟩ = some (.int .u8 (l[k].toNat : Int)) := by
  obtain ⟨a, c', e, h2, h3, h4, h5⟩ := h
  injection e with e1 e2 e3
  subst e1 e2 e3
  obtain ⟨b, off, e, hc, _⟩ := h4.byte k hk
  simp only [Option.some.injEq, Addr.mk.injEq, and_true] at e
  obtain ⟨rfl, rfl⟩ := e
  rw [Nat.zero_add] at hc
  exact hc
theorem count_v (l : List UInt8) (v : Value) (S : Nat) (w : World) (h : IsB l v w) (hS : IsB [10] (.slice (some ⟨S, 0, none⟩) 1 1) w) :
    Calls Tryd.prog 31 #[v, .slice (some ⟨S, 0, none⟩) 1 1] w fun e w' => e = .returned (.int .i64 (l.count 10 : Nat)) ∧ w = w' := by
  have hc := hS.byteAt (k := 0) (by simp)
  obtain ⟨a, c, rfl, h2, h3, h4, h5⟩ := id h
  rcases h5 with ⟨rfl, rfl⟩ | ⟨b, off, rfl⟩
  · obtain rfl := List.length_eq_zero_iff.1 (Nat.le_zero.1 h2)
    exact (Tryd.bytes_Count_one_nil S 0 1 10 w hc).mono fun e w' ⟨h1, h2⟩ => ⟨h1, h2.symm⟩
  · have hz : (numsU l).length = l.length := by unfold numsU; simp
    have := Tryd.bytes_Count_one_at ⟨b, off, none⟩ l.length c S 0 1 (numsU l) 10 w hz (fun i hi => by
      obtain ⟨b', off', e, hc, _⟩ := h4.byte i hi
      simp only [Option.some.injEq, Addr.mk.injEq, and_true] at e
      obtain ⟨rfl, rfl⟩ := e
      have ea : (⟨b, off, none⟩ : Addr).add i = ⟨b, off + i, none⟩ := by cases i <;> simp [Addr.add]
      rw [ea, hc]
      simp [numsU, hi]) hc
    rw [numsU_of] at this
    exact this.mono fun e w' ⟨h1, h2⟩ => ⟨h1, h2.symm⟩
theorem own_block {w : World} {base n : Nat} {a : Option Addr} {c : Nat} {xs : List Value} (h : w.ownsRow base 5 1 (.slice a n c) n xs) (hn : 1 ≤ n) : ∃ g, a = some ⟨g, 0, none⟩ ∧ base ≤ g := by
  obtain ⟨_, ⟨_, h2⟩ | ⟨g, cap, cur, h1, h2, _⟩⟩ := h
  · omega
  · injection h1 with e1 _ _
    exact ⟨g, e1, h2⟩
theorem xor_byte (a : UInt8) (y : Nat) (hy : y < 256) (h0 : y ≠ 0) : ∃ c : UInt8, bits .xor .u8 (a.toNat : Int) (y : Int) = (c.toNat : Int) ∧ a ≠ c := by
  refine ⟨a ^^^ UInt8.ofNat y, ?_, fun e => ?_⟩
  · rw [u8_xor_nat _ _ (by have := a.toNat_lt; omega) hy, UInt8.toNat_xor]
    congr 2
    simp
    omega
  · have h2 := congrArg UInt8.toNat e
    rw [UInt8.toNat_xor] at h2
    have h3 : (UInt8.ofNat y).toNat = y := by simp; omega
    rw [h3] at h2
    apply h0
    have h4 : a.toNat ^^^ a.toNat = a.toNat ^^^ (a.toNat ^^^ y) := by rw [← h2]
    rw [Nat.xor_self, ← Nat.xor_assoc, Nat.xor_self, Nat.zero_xor] at h4
    exact h4.symm
theorem limU16 {n : Int} (h : (Lit.int .u16 n).wf = true) : ∃ m : Nat, n = (m : Int) ∧ m < 65536 := by
  simp only [Lit.wf, Bool.and_eq_true, decide_eq_true_eq] at h
  have e1 : IntKind.u16.min = 0 := by decide
  have e2 : IntKind.u16.max = 65535 := by decide
  rw [e1, e2] at h
  exact ⟨n.toNat, by omega, by omega⟩
theorem limU8 {n : Int} (h : (Lit.int .u8 n).wf = true) : ∃ m : Nat, n = (m : Int) ∧ m < 256 := by
  simp only [Lit.wf, Bool.and_eq_true, decide_eq_true_eq] at h
  have e1 : IntKind.u8.min = 0 := by decide
  have e2 : IntKind.u8.max = 255 := by decide
  rw [e1, e2] at h
  exact ⟨n.toNat, by omega, by omega⟩
theorem regrown_call_at {P : Program} {f : FuncId} {args : Array Value} {w : World} {d : Nat} {os : Array Obj} {v : Value}
    (h : ∀ W : World, Below w.heap.size w W → Calls P f args W fun e w' => e = .returned v ∧ Below W.heap.size W w') : Calls P f args (Go.Sort.grow (redrawn w d) os) fun e w'' => e = .returned v ∧ ∃ p : Regrown, w'' = Go.Sort.grow (redrawn w p.d) p.os :=
  Calls.regrown_of (h _ (below_regrown _ _ _))
theorem enc_pos {l : List Ent} (h : 1 ≤ l.length) : 1 ≤ (encJ l).length := by
  cases l with
  | nil => simp at h
  | cons x l =>
    obtain ⟨t, ht⟩ := encF_pre l ([] ++ recE [] x)
    have e : encJ (x :: l) = ([] ++ recE [] x) ++ t := ht
    rw [e, List.length_append, List.length_append]
    have := rec_pos [] x
    omega

set_option maxRecDepth 100000 in
set_option maxHeartbeats 4000000 in
theorem journalChanged_walk (l : List Ent) (ao : Option Addr) (cap : Nat) (hl : l.length ≤ cap) (hc : cap ≤ 9223372036854775807) (at0 by0 : Int) (hat : (Lit.int .u16 at0).wf = true) (hby : (Lit.int .u8 by0).wf = true) (w : World) (hfr : RowAt encE 3 w.heap.size w ao l) (hfm : (ao = none ∧ l.length = 0 ∧ cap = 0) ∨ ∃ b off, ao = some ⟨b, off, none⟩) (he : Env w) :
    Calls Tryd.prog 8 #[.slice ao l.length cap, .int .u16 at0, .int .u8 by0] w fun e w' => e = .returned (.bool true) ∧ Below w.heap.size w w' := by
  obtain ⟨at1, rfl, hat1⟩ := limU16 hat
  obtain ⟨by1, rfl, hby1⟩ := limU8 hby
  have he0 := Lib.hid he
  have hl0 : Hid (IsE l (.slice ao l.length cap) w) := Lib.hid ⟨ao, cap, rfl, hl, hc, hfr⟩
  obtain ⟨L, hL⟩ : ∃ L, l.length = L := ⟨_, rfl⟩
  rw [hL] at hl0 hl ⊢
  have hLn := Lib.hid hL
  have hby2 := Lib.hid hby1
  clear he hl hat hby hfr hfm hL hby1
  obtain ⟨p0, hp0⟩ : ∃ p, ((L : Int) == 0) = p := ⟨_, rfl⟩
  obtain ⟨p, hp⟩ : ∃ p, decide ((20 : Int) < (L : Int)) = p := ⟨_, rfl⟩
  obtain ⟨q, hq⟩ : ∃ q, ((by1 : Int) == 0) = q := ⟨_, rfl⟩
  go_enter Tryd.func8, Tryd.ntmps8
  go_wp2_with fail
  refine (awake_v w he0.out).mono ?_
  rintro e w1 ⟨rfl, HB⟩
  obtain ⟨lb, hlb⟩ : ∃ lb, longE l = lb := ⟨_, rfl⟩
  have HL := Lib.hid (longE_v l _ w1 (hl0.out.up HB))
  rw [hlb] at HL
  go_wp2_with fail
  refine HL.out.mono ?_
  rintro e w2 ⟨rfl, hb2⟩
  replace HB := below_then HB hb2
  clear HL hb2
  rcases lb with _ | _
  rotate_left
  · clear hlb
    go_wp2_with fail
    go_ret
    exact ⟨rfl, HB⟩
  have hsh := Lib.hid (longE_no hlb)
  clear hlb
  rcases p0 with _ | _
  rotate_left
  · go_wp2_with fail
    go_ret
    exact ⟨rfl, HB⟩
  rcases p with _ | _
  rotate_left
  · go_wp2_with fail
    go_ret
    exact ⟨rfl, HB⟩
  rcases q with _ | _
  rotate_left
  · go_wp2_with fail
    go_ret
    exact ⟨rfl, HB⟩
  have hL20 : Hid (1 ≤ L ∧ L ≤ 20) := Lib.hid (by have := of_decide_eq_false hp; have h2 : ¬ ((L : Int) = 0) := (by simpa using hp0); omega)
  have hby3 : Hid (by1 ≠ 0) := Lib.hid (by have h2 : ¬ ((by1 : Int) = 0) := (by simpa using hq); omega)
  have hs : Hid (∀ x ∈ l, x.name.size ≤ 10000) := Lib.hid fun x hx => by have := hsh.out.2 x hx; omega
  obtain ⟨vl, hvl⟩ : ∃ vl, logV l = vl := ⟨_, rfl⟩
  have HE := Lib.hid (enc_v l _ w2 hs.out (he0.out.bel HB) (hl0.out.up HB))
  rw [hvl] at HE
  go_wp2_with fail
  refine HE.out.mono ?_
  rintro e w3 ⟨⟨q1, q2⟩, hb3⟩
  replace HB := below_then HB hb3
  clear HE hb3
  rcases vl with _ | _
  · obtain rfl := q1 rfl
    clear q1 q2
    go_wp2_with fail
    go_ret
    exact ⟨rfl, HB⟩
  obtain ⟨x, rfl, hx⟩ := q2 rfl
  clear q1 q2
  obtain ⟨xa, N, xc, rfl, hN, -, -⟩ := hx.out.shape
  have hJ1 : 1 ≤ N := by rw [hN]; exact enc_pos (by have := hL20.out; have := hLn.out; omega)
  have hJl : N ≤ 70000 := by rw [hN]; exact (dec_enc hvl).2.2
  have z0 : ((N : Int) == 0) = false := by simp; omega
  obtain ⟨k, hk⟩ : ∃ k, at1 % N = k := ⟨_, rfl⟩
  have hkN : k < N := by rw [← hk]; exact Nat.mod_lt _ (by omega)
  have hrem : Int.tmod (at1 : Int) (N : Int) = (k : Int) := by rw [← hk]; exact Int.ofNat_tmod at1 N
  have hkJ : k < (encJ l).length := by omega
  obtain ⟨C, hC, hCne⟩ := xor_byte ((encJ l)[k]'hkJ) by1 hby2.out hby3.out
  obtain ⟨i, er, g1, g2, g3, g4, g5, g6, g7⟩ := good_chg hvl hkJ hCne
  have hcl : ((encJ l).set k C).length = N := by rw [List.length_set]; exact hN.symm
  obtain ⟨_, _, _, eG, eD⟩ := rec_good (b := (encJ l).set k C) (by omega) g2
  obtain ⟨at_, hat_⟩ : ∃ at_, (encJ (l.take i)).length = at_ := ⟨_, rfl⟩
  rw [hat_] at eG g5 g6 g7
  have hil : (l.take i).length = i := by rw [List.length_take]; omega
  rw [hil] at eG
  have eH := Lib.hid (And.intro hN (And.intro g6 (And.intro g7 (And.intro g4 hcl))))
  have hbyte := Lib.hid (fun (u : World) (g cap n : Nat) (h : IsB (encJ l) (.slice (some ⟨g, 0, none⟩) n cap) u) => h.byteAt hkJ)
  have hset := Lib.hid (fun (u : World) (g cap n : Nat) (h : IsB (encJ l) (.slice (some ⟨g, 0, none⟩) n cap) u) => h.set hkJ C)
  obtain ⟨Y, hY⟩ : ∃ Y, (((encJ l)[k]'hkJ).toNat : Int) = Y := ⟨_, rfl⟩
  obtain ⟨CI, hCI⟩ : ∃ CI, (C.toNat : Int) = CI := ⟨_, rfl⟩
  rw [hY] at hC hbyte
  rw [hCI] at hC hset
  have hC0 : IntKind.u8.wrap CI = CI := by rw [← hCI]; exact IntWalk.u8_in _ (by have := C.toNat_lt; omega)
  have zE : ((er : Int) != 0) = true := by simpa using g3
  obtain ⟨B, hB⟩ : ∃ B, encJ l = B := ⟨_, rfl⟩
  obtain ⟨B', hB'⟩ : ∃ B', (encJ l).set k C = B' := ⟨_, rfl⟩
  rw [hB'] at hset eG eD eH
  rw [hB] at hset hbyte hx eH
  have HC := Lib.hid (cloneB_v B _ (by have := eH.out.1; omega) w3 hx.out)
  rw [← eH.out.1] at HC
  have hat9 : at_ ≤ k := g5
  have hi20 : i ≤ L := by have := hLn.out; omega
  have wi : Hid (i ≤ 20) := Lib.hid (by have := hL20.out; omega)
  replace hk := Lib.hid hk
  replace eG := Lib.hid eG
  replace eD := Lib.hid eD
  replace hJl := Lib.hid hJl
  clear hN hkJ g1 g2 g3 g4 g5 g6 g7 hcl hat_ hil hY hCI hCne hB hB' hvl
  go_wp2_with fail
  refine HC.out.mono ?_
  rintro e w4 ⟨⟨cy, cc, rfl, hcy⟩, hb4⟩
  obtain ⟨g, rfl, hg⟩ := own_block hcy.out (by omega)
  have hcc : N ≤ cc ∧ cc ≤ 9223372036854775807 := by
    obtain ⟨_, n2, _, e, h1, h2, h3⟩ := (row_isB (l := B) (by have := hcy.out; rw [eH.out.1] at this; exact this)).shape
    injection e with e1 e2 e3
    have h0 := eH.out.1
    rw [h0]
    omega
  have hcB : Hid (IsB B (.slice (some ⟨g, 0, none⟩) N cc) w4) := Lib.hid (row_isB (by have := hcy.out; rw [eH.out.1] at this ⊢; exact this))
  have hg2 : w.heap.size ≤ g := by have := HB.size; omega
  replace HB := below_then HB hb4
  have hx4 := Lib.hid (hx.out.up hb4)
  have c0 := hbyte.out _ _ _ _ hcB.out
  have c1 := World.ownsRow.frozenAt hcy.out k
  have hglt : g < w4.heap.size := block_lt_of_cell c0
  have hx5 : Hid (∀ u : Value, IsB B (.slice xa N xc) (w4.setCell ⟨g, k, none⟩ u)) := Lib.hid (fun u => hx.out.up (hb4.setCell (p := ⟨g, k, none⟩) hg u))
  have hx := hx5
  clear HC hb4 hcy hx4
  go_wp2_with fail
  generalize hWW : World.setCell _ _ _ = W5
  have hcB2 : Hid (IsB B' (.slice (some ⟨g, 0, none⟩) N cc) W5) := Lib.hid (by rw [← hWW]; exact hset.out _ _ _ _ hcB.out)
  have hx6 : Hid (IsB B (.slice xa N xc) W5) := Lib.hid (by rw [← hWW]; exact hx5.out _)
  have HB5 : Below w.heap.size w W5 := by rw [← hWW]; exact HB.setCell (p := ⟨g, k, none⟩) hg2 _
  clear hWW hcB hx hx5 c0 c1 hglt HB
  have HD := Lib.hid (decode_v B' _ (.inl (by have := eH.out.2.2.2.2; have := hJl.out; omega)) W5 (he0.out.bel HB5) hcB2.out)
  rw [eD.out] at HD
  refine HD.out.mono ?_
  rintro e w6 ⟨⟨dv, rfl, -⟩, hb6⟩
  have HB := below_then HB5 hb6
  replace hcB2 := Lib.hid (hcB2.out.up hb6)
  replace hx6 := Lib.hid (hx6.out.up hb6)
  have HG := Lib.hid (goodN_v B' _ (.inl (by have := eH.out.2.2.2.2; have := hJl.out; omega)) w6 (he0.out.bel HB) hcB2.out)
  rw [eG.out] at HG
  dsimp only at HG
  clear HD hb6 HB5
  go_wp2_with fail
  refine HG.out.mono ?_
  rintro e w7 ⟨rfl, hb7⟩
  replace HB := below_then HB hb7
  replace hcB2 := Lib.hid (hcB2.out.up hb7)
  replace hx6 := Lib.hid (hx6.out.up hb7)
  clear HG hb7
  obtain ⟨A1, hs1, hB1⟩ := hx6.out.hi k (by omega)
  replace hB1 := Lib.hid hB1
  have hcv := Lib.run_convert_bytes_const (P := Tryd.prog) w7 22 5 #[.int .u8 10] 1 1 Tryd.underlying22 Tryd.underlying5
  go_wp2_with fail
  generalize hWW : World.alloc _ _ = W8
  have hbW : Below w7.heap.size w7 W8 := by rw [← hWW]; exact below_al (Below.refl _ _) _
  have hS : IsB [10] (.slice (some ⟨w7.heap.size, 0, none⟩) 1 1) W8 := by rw [← hWW]; exact lit_isB w7 _ [10] 1 rfl (by decide) rfl _
  have HN := Lib.hid (count_v (B.take k) _ _ W8 (hB1.out.up hbW) hS)
  rw [eH.out.2.2.2.1] at HN
  replace HB := below_then HB hbW
  replace hcB2 := Lib.hid (hcB2.out.up hbW)
  replace hx6 := Lib.hid (hx6.out.up hbW)
  clear hWW hbW hS hcv hs1 hB1
  refine HN.out.mono ?_
  rintro e wn ⟨rfl, rfl⟩
  clear HN
  obtain ⟨A2, hs2, hB2⟩ := hx6.out.hi at_ (by omega)
  obtain ⟨A3, hs3, hB3⟩ := hcB2.out.hi at_ (by omega)
  rw [eH.out.2.2.1] at hB2
  rw [eH.out.2.1] at hB3
  have hst2 := Lib.hid hB2
  have hst3 := Lib.hid hB3
  have HQ : Hid (∀ u, Below W8.heap.size W8 u → Calls Tryd.prog 14 #[.slice A3 at_ cc, .slice A2 at_ xc] u fun e w' => e = .returned (.bool true) ∧ Below u.heap.size u w') := Lib.hid (fun u hb => by
    have := beq_v _ _ _ _ u (hst3.out.up hb) (hst2.out.up hb)
    rw [decide_eq_true rfl] at this
    exact this.mono fun e w' ⟨h1, h2⟩ => ⟨h1, h2 ▸ Below.refl _ _⟩)
  clear hB2 hB3 hcB2 hx6
  have z3 : ((i : Int) == (i : Int)) = true := by simp
  go_upto_region 16 with fail
  refine wp_region_quiet_below (by kernel_rfl) (by kernel_rfl) ?_
  repeat (go_big_quiet_step ((first | with_reducible exact regrown_call_at HQ.out)))
  refine wpQuiet_nil ?_
  intro v9 hb9'
  have hb9 := below_of_regrown hb9'
  replace HB := below_then HB hb9
  clear hb9' hb9
  go_wp2_with fail
  go_ret
  exact ⟨by first | rfl | simp, HB⟩

end Go.Proofs.YtdcfpopbnkafaaaDoor
