/- journal: append of a whole slice, or of a string, onto a row of the call's own; the reference's Record, Encode. -/
import Derived.Test.YtdcfpopbnkafaaaDoorJoJ
import Derived.Deep.Upon
import Derived.Lib.AppendStr
set_option linter.unusedVariables false
namespace Go.Proofs.YtdcfpopbnkafaaaDoor
open Go.ChangeShapes Go.WideShapes Go.ChangeAt Go.RowKit

open Go.Lib (decDigits itoa itoa_nonneg)
/-- m elements that an append may read: none, or those behind an address. -/
def SrcAt (size : Nat) (w : World) (y : Value) (m : Nat) (news : List Value) : Prop :=
  (m = 0 ∧ news = [] ∧ ∃ a c, y = .slice a 0 c ∧ (a = none → c = 0)) ∨ ∃ ad c, y = .slice (some ad) m c ∧ news.length = m * size ∧ (∀ j u, news[j]? = some u → w.cell? (ad.add j) = some u) ∧ ∀ u ∈ news, u.oneCell' = true
theorem IsB.srcAt {l : List UInt8} {y : Value} {w : World} (h : IsB l y w) : SrcAt 1 w y l.length (l.flatMap encU) := by
  by_cases hl : 1 ≤ l.length
  · obtain ⟨b, off, c, rfl, h1, h2, h3⟩ := h.src hl
    exact .inr ⟨_, _, rfl, h1, h2, h3⟩
  · obtain rfl := List.length_eq_zero_iff.1 (show l.length = 0 by omega)
    obtain ⟨a, c, rfl, _, _, _, h5⟩ := h
    refine .inl ⟨rfl, rfl, a, c, rfl, fun e => ?_⟩
    rcases h5 with ⟨_, q⟩ | ⟨b, off, q⟩
    · exact q
    · rw [e] at q; cases q
theorem encE_one {x : Ent} {u : Value} (h : u ∈ encE x) : u.oneCell' = true := by
  simp [encE] at h
  rcases h with rfl | rfl | rfl <;> rfl
theorem row_srcE {l : List Ent} {y : Value} {w : World} {base : Nat} (h : w.ownsRow base 24 3 y l.length (l.flatMap encE)) : SrcAt 3 w y l.length (l.flatMap encE) := by
  have h2 : Row w 24 3 encE y l := ⟨h.1, h.2.imp id fun ⟨g, cap, cur, h1, _, h3⟩ => ⟨g, cap, cur, h1, Nat.zero_le _, h3⟩⟩
  obtain ⟨ao, cap, rfl, h4, h5, h6, h7⟩ := h2.view encE_len
  rcases h7 with ⟨rfl, hz, rfl⟩ | ⟨g, rfl, _⟩
  · obtain rfl := List.length_eq_zero_iff.1 hz
    exact .inl ⟨rfl, rfl, none, 0, rfl, fun _ => rfl⟩
  · refine .inr ⟨_, _, rfl, flat_len encE_len l, fun j u hu => ?_, fun u hu => ?_⟩
    · have := h6.flat encE_len (by decide) j u hu
      rw [← this]
      cases j <;> simp [Addr.add]
    · obtain ⟨x, _, hx⟩ := List.mem_flatMap.1 hu
      exact encE_one hx
theorem grownBy_refl (w : World) (row : Option Nat) : w.grownBy w row := ⟨rfl, rfl, rfl, Nat.le_refl _, fun _ _ _ => rfl⟩
theorem run_append_any {P : Program} (w : World) (base : Nat) (t ty e : TypeId) (i : TypeInfo) (z : Value) (size bytes : Nat) (ht : P.underlying t = some (.slice e)) (hi : P.info? e = some i) (hz : i.zero = some z)
    (hsize : i.size = size) (hby : i.bytes = bytes) (hzs : z.cells.size = size) (hsz : 0 < size)
    (v : Value) (n : Nat) (xs : List Value) (hown : w.ownsRow base e size v n xs) (y : Value) (m : Nat) (news : List Value) (hy : SrcAt size w y m news)
    (h63 : n + m ≤ maxLen) (hbytes : (n + m) * bytes ≤ 140737488355328) (hbase : base ≤ w.heap.size) :
    ∃ v' w', (Builtin.append_ #[t, t] ty #[v, y]).run P w = .ok v' w' ∧ w'.ownsRow base e size v' (n + m) (xs ++ news) ∧ w.grownBy w' v.ownBlock := by
  rcases hy with ⟨rfl, rfl, a, c, rfl, hac⟩ | ⟨ad, c, rfl, h1, h2, h3⟩
  · obtain ⟨av, cv, hv⟩ := own_slice hown
    have hle : n ≤ cv := by
      obtain ⟨_, ⟨q1, q2⟩ | ⟨g, cap, cur, q1, q2, q3, q4, _⟩⟩ := hown
      · omega
      · rw [hv] at q1; injection q1 with e1 e2 e3; omega
    have hs : Src P i.size t (.slice a 0 c) 0 [] w := by
      cases a with
      | none => rw [hac rfl]; exact Src.ofNil (e' := e) w ht 0
      | some ad => exact Src.ofSlice (e' := e) w ht ad 0 c [] (by simp) (fun j u h => by simp at h) (fun u h => by cases h)
    have := run_append_nothing w t t ty e i ht hi av n cv hle _ hs
    subst hv
    exact ⟨_, _, this, by simpa using hown, grownBy_refl _ _⟩
  · obtain ⟨v', w', q1, q2, q3, _, _⟩ := run_append_own_at (P := P) w base t ty e i z size bytes ht hi hz hsize hby hzs hsz v n xs hown ad m c news h1 h2 h3 h63 hbytes hbase
    exact ⟨v', w', q1, q2, q3⟩
theorem wpList_append_any {P : Program} {w : World} {ops : Array Oper} {rest : List Oper} {o : Oper} {a : Act} {Q : Exit → Act → World → Prop} (hgd : o.guard = none) (s x : Operand) (t : TypeId)
    (ho : o.op = .call { callee := .builtin .append, args := #[s, x], argTypes := #[t, t] })
    (base : Nat) (e : TypeId) (i : TypeInfo) (z : Value) (size bytes : Nat) (ht : P.underlying t = some (.slice e)) (hi : P.info? e = some i) (hz : i.zero = some z)
    (hsize : i.size = size) (hby : i.bytes = bytes) (hzs : z.cells.size = size) (hsz : 0 < size)
    (v : Value) (n : Nat) (xs : List Value) (hs : a.eval s = v) (hown : w.ownsRow base e size v n xs) (y : Value) (m : Nat) (news : List Value) (hx : a.eval x = y) (hy : SrcAt size w y m news)
    (h63 : n + m ≤ maxLen) (hbytes : (n + m) * bytes ≤ 140737488355328) (hbase : base ≤ w.heap.size)
    (h : ∀ v' w', w'.ownsRow base e size v' (n + m) (xs ++ news) → w.grownBy w' v.ownBlock → wpList P ops Q rest (a.put o.dst v') w') :
    wpList P ops Q (o :: rest) a w := by
  refine wpList_plain hgd fun K hK => ?_
  obtain ⟨v', w', hr, h2, h3⟩ := run_append_any (P := P) w base t o.type e i z size bytes ht hi hz hsize hby hzs hsz v n xs hown y m news hy h63 hbytes hbase
  unfold Oper.wp execOp
  simp only [ho, resolve, invoke, builtin, Sem.run_bind, Sem.run_pure, Result.andThen_ok, List.map_toArray, List.map_cons, List.map_nil, hs, hx, hr]
  exact hK _ _ (h v' w' h2 h3)
theorem step_append_any {P : Program} (w : World) {ops : Array Oper} {o : Oper} {a : Act} {K : Act → World → Prop} {Q : Exit → Act → World → Prop} {E : Prop} (hw : Region.wanted o (yielded ops a.tmps) = true) (s x : Operand) (t : TypeId)
    (ho : o.op = .call { callee := .builtin .append, args := #[s, x], argTypes := #[t, t] })
    (base : Nat) (e : TypeId) (i : TypeInfo) (z : Value) (size bytes : Nat) (ht : P.underlying t = some (.slice e)) (hi : P.info? e = some i) (hz : i.zero = some z)
    (hsize : i.size = size) (hby : i.bytes = bytes) (hzs : z.cells.size = size) (hsz : 0 < size)
    (v : Value) (n : Nat) (xs : List Value) (hs : a.eval s = v) (hown : w.ownsRow base e size v n xs) (y : Value) (m : Nat) (news : List Value) (hx : a.eval x = y) (hy : SrcAt size w y m news)
    (h63 : n + m ≤ maxLen) (hbytes : (n + m) * bytes ≤ 140737488355328) (hbase : base ≤ w.heap.size)
    (h : ∀ ao cap w', w'.ownsRow base e size (.slice ao (n + m) cap) (n + m) (xs ++ news) → w.grownBy w' v.ownBlock → K (a.put o.dst (.slice ao (n + m) cap)) w') :
    if Region.wanted o (yielded ops a.tmps) = true then Oper.wp P o a w K Q else E := by
  rw [if_pos hw]
  obtain ⟨v', w', hr, h2, h3⟩ := run_append_any (P := P) w base t o.type e i z size bytes ht hi hz hsize hby hzs hsz v n xs hown y m news hy h63 hbytes hbase
  obtain ⟨ao, cap, rfl⟩ := own_slice h2
  unfold Oper.wp execOp
  simp only [ho, resolve, invoke, builtin, Sem.run_bind, Sem.run_pure, Result.andThen_ok, List.map_toArray, List.map_cons, List.map_nil, hs, hx, hr]
  exact h ao cap w' h2 h3
theorem step_append_str {P : Program} (w : World) {ops : Array Oper} {o : Oper} {a : Act} {K : Act → World → Prop} {Q : Exit → Act → World → Prop} {E : Prop} (hw : Region.wanted o (yielded ops a.tmps) = true) (sl x : Operand) (t u : TypeId)
    (ho : o.op = .call { callee := .builtin .append, args := #[sl, x], argTypes := #[t, u] })
    (base : Nat) (e : TypeId) (i : TypeInfo) (ht : P.underlying t = some (.slice e)) (hu : P.underlying u = some .string) (hi : P.info? e = some i) (hz : i.zero = some (.int .u8 0)) (hsize : i.size = 1) (hby : i.bytes = 1)
    (v : Value) (n : Nat) (xs : List Value) (hs : a.eval sl = v) (hown : w.ownsRow base e 1 v n xs) (s : ByteArray) (hx : a.eval x = .string s)
    (h63 : n + s.size ≤ maxLen) (hbytes : n + s.size ≤ 140737488355328) (hbase : base ≤ w.heap.size)
    (h : ∀ ao cap w', w'.ownsRow base e 1 (.slice ao (n + s.size) cap) (n + s.size) (xs ++ Lib.strCells s) → w.grownBy w' v.ownBlock → K (a.put o.dst (.slice ao (n + s.size) cap)) w') :
    if Region.wanted o (yielded ops a.tmps) = true then Oper.wp P o a w K Q else E := by
  rw [if_pos hw]
  obtain ⟨v', w', hr, h2, h3, _⟩ := Lib.run_append_own_string (P := P) w base t u o.type e i ht hu hi hz hsize hby v n xs hown s h63 hbytes hbase
  obtain ⟨ao, cap, rfl⟩ := own_slice h2
  unfold Oper.wp execOp
  simp only [ho, resolve, invoke, builtin, Sem.run_bind, Sem.run_pure, Result.andThen_ok, List.map_toArray, List.map_cons, List.map_nil, hs, hx, hr]
  exact h ao cap w' h2 h3
/-- The row that '[]T' with nothing in it lays. -/
theorem own_empty {w : World} {base g : Nat} {e : TypeId} {sz : Nat} (h : At w g e #[]) (hb : base ≤ g) : w.ownsRow base e sz (.slice (some ⟨g, 0, none⟩) 0 0) 0 [] :=
  ⟨by simp, .inr ⟨g, 0, #[], rfl, hb, h, Nat.le_refl _, by decide, by simp, by simp⟩⟩
theorem strCells_enc (s : ByteArray) : Lib.strCells s = (by_ s).flatMap encU := by
  unfold Lib.strCells encU
  exact List.map_eq_flatMap

set_option maxRecDepth 100000 in
set_option maxHeartbeats 2000000 in
theorem refrecord_v (p : List UInt8) (v : Value) (hpl : p.length ≤ 1000000) (d k : Int) (nm : ByteArray) (hd : 0 ≤ d ∧ d ≤ 9223372036854775807) (hk : 0 ≤ k ∧ k ≤ 9223372036854775807) (hn : nm.size ≤ 10000) (w : World) (hp : IsB p v w) :
    Calls Tryd.prog 33 #[v, .agg #[.int .i64 d, .int .i64 k, .string nm]] w fun e w' => (∃ y, e = .returned (.string y) ∧ Hid (by_ y = recE p ⟨d, k, nm⟩)) ∧ Below w.heap.size w w' := by
  obtain ⟨iU, hu, hu0, hu1, hu2⟩ := info_parts infoU8
  obtain ⟨a, n, c, rfl, -, -⟩ := hp.shape
  have dec : ∀ q : Int, 0 ≤ q ∧ q ≤ 9223372036854775807 → Hid (∀ w, Calls Tryd.prog 48 #[.int .i64 q] w fun e w' => e = .returned (.string ⟨(itoa q).toArray⟩) ∧ Below w.heap.size w w') := fun q hq => Lib.hid fun w => by
    have h := dec23_any q.toNat (by omega) w
    have e := itoa_nonneg q.toNat
    rw [Int.toNat_of_nonneg hq.1] at h e
    rw [e]
    exact h.mono fun e w' ⟨h1, h2⟩ => ⟨h1, h2 ▸ Below.refl _ _⟩
  have HA := dec d hd
  have HD := dec k hk
  have hdec := Lib.hid dec
  have hd' : -9223372036854775808 ≤ d ∧ d ≤ 9223372036854775807 := by omega
  have hk' : -9223372036854775808 ≤ k ∧ k ≤ 9223372036854775807 := by omega
  have bA := itoa_len hd'
  have bD := itoa_len hk'
  have hls := lineS_size (nm := nm) hd' hk'
  have hlb := Lib.hid (lineS_by d k nm)
  have hld : lineS d k nm = (⟨(itoa d).toArray⟩ : ByteArray) ++ ⟨#[32]⟩ ++ ⟨(itoa k).toArray⟩ ++ ⟨#[32]⟩ ++ nm ++ ⟨#[32]⟩ := rfl
  generalize (⟨(itoa d).toArray⟩ : ByteArray) = sA at *
  generalize (⟨(itoa k).toArray⟩ : ByteArray) = sD at *
  obtain ⟨L, hL⟩ : ∃ L, lineS d k nm = L := ⟨_, rfl⟩
  rw [hL] at hls hlb hld
  replace hld := Lib.hid hld
  have hp' := Lib.hid hp
  have hpl' := Lib.hid hpl
  clear hp hL hd hk hd' hk' dec hpl
  go_enter Tryd.func33, Tryd.ntmps33
  go_wp2_with fail
  generalize hWW : World.alloc _ _ = WW
  have kx : At WW w.heap.size 24 #[.int .i64 d, .int .i64 k, .string nm] := by rw [← hWW]; exact At.new' rfl
  have HB : Below w.heap.size w WW := by rw [← hWW]; exact below_al (Below.refl _ _) _
  replace hp' := Lib.hid (hp'.out.up HB)
  clear hWW
  have K0 := cell_regrown kx.c0'
  have K1 := cell_regrown kx.c1'
  have K2 := cell_regrown kx.c2'
  refine wp_region_quiet_below (by kernel_rfl) (by kernel_rfl) ?_
  repeat (go_big_quiet_step ((first | with_reducible exact regrown_call HA.out | with_reducible exact regrown_call HD.out)))
  refine wpQuiet_nil ?_
  intro v1 hb1'
  have hb1 := below_of_regrown hb1'
  clear hb1' K0 K1 K2
  rw [← hld.out]
  replace hp' := Lib.hid (hp'.out.up hb1)
  replace HB := below_then HB hb1
  clear hb1 kx HA HD hld
  go_wp2_with (at_builtin; refine wpList_append_any rfl _ _ 22 rfl v1.heap.size 5 iU (.int .u8 0) 1 1 Tryd.underlying22 hu hu0 hu1 hu2 rfl (by decide) _ _ _ rfl (own_empty (At.new' rfl) (Nat.le_refl _)) _ _ _ rfl (hp'.out.up (below_al (Below.refl _ _) _)).srcAt (by have := hpl'.out; unfold maxLen; omega) (by have := hpl'.out; omega) (by simp) ?_)
  intro v' w5 ho1 hg1
  have hb5 : Below v1.heap.size v1 w5 := below_grown (below_al (Below.refl _ _) _) hg1 (fun b hb => by
    have hb : some v1.heap.size = some b := hb
    injection hb with hb
    omega)
  replace ho1 := Lib.hid ho1
  clear hg1
  go_wp2_with (at_builtin; refine Lib.wpList_append_own_string _ rfl _ _ 22 9 rfl v1.heap.size 5 iU Tryd.underlying22 Tryd.underlying9 hu hu0 hu1 hu2 _ _ _ rfl ho1.out _ rfl (by have := hpl'.out; unfold maxLen; omega) (by have := hpl'.out; omega) (by have := hb5.size; omega) ?_)
  intro v'' w6 ho2 hg2 hnil2
  have hb6 : Below v1.heap.size v1 w6 := below_grown hb5 hg2 (fun b hb => (own_lt ho1.out hb).2)
  have hall : Hid (IsB (p ++ by_ L) v'' w6) := Lib.hid (row_isB (base := v1.heap.size) (by
    rw [strCells_enc] at ho2
    rw [List.length_append, List.flatMap_append, by_len]
    exact ho2))
  replace HB := below_then HB hb6
  have HS := Lib.hid (refsum_v _ _ w6 hall.out)
  obtain ⟨s1, hs1⟩ : ∃ s1, sumB (p ++ by_ L) = s1 := ⟨_, rfl⟩
  have hlt1 := sumB_lt (p ++ by_ L)
  rw [hs1] at HS hlt1
  have HI := hdec.out (s1 : Int) (by omega)
  have bS := itoa_len (n := (s1 : Int)) (by omega)
  have hrec : Hid (by_ (L ++ ⟨(itoa (s1 : Int)).toArray⟩ ++ ⟨#[10]⟩) = recE p ⟨d, k, nm⟩) := Lib.hid (by
    have := recS_by p ⟨d, k, nm⟩ L hlb.out
    have e : sumF (sumB p) (lineE ⟨d, k, nm⟩) = s1 := by rw [← hs1, ← hlb.out]; exact (sumF_app 7 _ _).symm
    rw [e] at this
    exact this)
  generalize (⟨(itoa (s1 : Int)).toArray⟩ : ByteArray) = sS at *
  replace hs1 := Lib.hid hs1
  replace hlt1 := Lib.hid hlt1
  clear hb5 hb6 ho1 ho2 hg2 hnil2 hp' hdec
  go_wp2_with fail
  refine HS.out.mono ?_
  rintro e wn ⟨rfl, rfl⟩
  clear HS
  go_wp2_with fail
  refine (HI.out _).mono ?_
  rintro e w7 ⟨rfl, hb7⟩
  replace HB := below_then HB hb7
  clear hb7 HI
  go_wp2_with fail
  go_ret
  exact ⟨⟨_, rfl, hrec⟩, HB⟩

end Go.Proofs.YtdcfpopbnkafaaaDoor
