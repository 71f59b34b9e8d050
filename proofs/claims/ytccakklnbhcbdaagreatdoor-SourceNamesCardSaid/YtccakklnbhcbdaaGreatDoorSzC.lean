/- source: SourceNames, the walk. -/
import Derived.Test.YtccakklnbhcbdaaGreatDoorSzA
import Derived.Test.YtccakklnbhcbdaaGreatDoorSzB
import Derived.Test.YtccakklnbhcbdaaGreatDoorQk
import Derived.Test.YtccakklnbhcbdaaGreatDoorMNms
set_option linter.unusedVariables false
set_option linter.unusedSimpArgs false
namespace Go.Proofs.YtccakklnbhcbdaaGreatDoor
open Go.ChangeShapes Go.WideShapes Go.ChangeAt Go.RowKit

theorem wpList_append_w {P : Program} {w : World} {ops : Array Oper} {rest : List Oper} {o : Oper} {a : Act} {Q : Exit → Act → World → Prop} (hw : Region.wanted o (yielded ops a.tmps) = true) (s x : Operand) (t : TypeId)
    (ho : o.op = .call { callee := .builtin .append, args := #[s, x], argTypes := #[t, t] })
    (base : Nat) (e : TypeId) (i : TypeInfo) (z : Value) (size bytes : Nat) (ht : P.underlying t = some (.slice e)) (hi : P.info? e = some i) (hz : i.zero = some z)
    (hsize : i.size = size) (hby : i.bytes = bytes) (hzs : z.cells.size = size) (hsz : 0 < size)
    (v : Value) (n : Nat) (xs : List Value) (hs : a.eval s = v) (hown : w.ownsRow base e size v n xs)
    (ad : Addr) (m c : Nat) (news : List Value) (hx : a.eval x = .slice (some ad) m c) (hl : news.length = m * size) (hnews : ∀ j u, news[j]? = some u → w.cell? (ad.add j) = some u) (h1 : ∀ u ∈ news, u.oneCell' = true)
    (h63 : n + m ≤ maxLen) (hbytes : (n + m) * bytes ≤ 140737488355328) (hbase : base ≤ w.heap.size)
    (h : ∀ ao cap w', w'.ownsRow base e size (.slice ao (n + m) cap) (n + m) (xs ++ news) → w.grownBy w' v.ownBlock → wpList P ops Q rest (a.put o.dst (.slice ao (n + m) cap)) w') : wpList P ops Q (o :: rest) a w :=
  wpList_step fun K hK => step_append_w w hw s x t ho base e i z size bytes ht hi hz hsize hby hzs hsz v n xs hs hown ad m c news hx hl hnews h1 h63 hbytes hbase fun ao cap w' h2 h3 _ => hK _ _ (h ao cap w' h2 h3)
theorem isS_snoc {mk : List ByteArray} {z : ByteArray} {n base : Nat} {w : World} {v : Value} (hm : mk.length = n) (ho : w.ownsRow base 9 1 v (n + 1) (mk.flatMap encS ++ [.string z])) : IsS (mk ++ [z]) v w := by
  subst hm
  refine row_isS (base := base) ?_
  rw [List.length_append, List.flatMap_append]
  exact ho
theorem eqS_same (l : List ByteArray) (v1 v2 : Value) (w : World) (h : l.length ≤ 10000000) (r1 : IsS l v1 w) (r2 : IsS l v2 w) : Calls Tryz.prog 22 #[v1, v2] w fun e w' => e = .returned (.bool true) ∧ Below w.heap.size w w' := by
  have := eqS_any l l v1 v2 w h h r1 r2
  rwa [decide_eq_true rfl] at this
theorem emp_of {w : World} {p : PV} (hv : DetV w det0 p) : Emp (detC det0 p) := by
  obtain ⟨a1, c1, e1, -⟩ := hv.boxes
  obtain ⟨a2, c2, e2, -⟩ := hv.holes
  obtain ⟨a3, c3, e3, -⟩ := hv.bars
  obtain ⟨a4, c4, e4, -⟩ := hv.runs
  obtain ⟨a5, c5, e5, -⟩ := hv.laps
  obtain ⟨a6, c6, e6, -⟩ := hv.dems
  refine ⟨a1, a2, a3, a4, a5, a6, c1, c2, c3, c4, c5, c6, ?_⟩
  simp [detC, det0, encK, List.range, List.range.loop, e1, e2, e3, e4, e5, e6]
/-- How Parse and Names answer. -/
theorem names_cases (l : List UInt8) : ((srcS l).2.2 ≠ 0 ∧ (srcS l).1 = det0 ∧ ((readS l).2.2 = (srcS l).2.2 ∨ (srcS l).2.2 = 1 ∧ (readS l).2.2 = 0)) ∨ ((srcS l).2.2 = 0 ∧ (readS l).1 = (srcS l).1 ∧ (readS l).2.2 = 0 ∧ readS l = ((srcS l).1, (0, 0), 0)) := by
  unfold srcS
  by_cases h : (readS l).2.2 = 0
  · rw [if_neg (by rw [h]; decide)]
    have hp := readS_pos l h
    by_cases hw : wrD (readS l).1 = true
    · rw [if_pos hw]
      right
      refine ⟨h, rfl, h, ?_⟩
      generalize readS l = R at *
      obtain ⟨d, p, e⟩ := R
      dsimp only at h hp
      rw [h, hp]
    · rw [if_neg hw]
      exact .inl ⟨show (1 : Int) ≠ 0 by decide, rfl, .inr ⟨rfl, h⟩⟩
  · rw [if_pos h]
    exact .inl ⟨h, readS_bad l h, .inl rfl⟩

set_option maxRecDepth 100000 in
theorem names_long (S : ByteArray) (hz : 2000 < S.size) (w : World) (he : Env w) : Calls Tryz.prog 6 #[.string S] w fun e w' => e = .returned (.bool true) ∧ Below w.heap.size w w' := by
  have hd : decide ((2000 : Int) < (S.size : Int)) = true := decide_eq_true (by omega)
  go_enter Tryz.func6, Tryz.ntmps6
  go_wp2_with fail
  refine (awake_any w he).mono ?_
  rintro e w1 ⟨rfl, hb1⟩
  go_wp2_with fail
  go_ret
  exact ⟨rfl, hb1⟩

set_option maxRecDepth 100000 in
set_option maxHeartbeats 4000000 in
theorem names_short (S : ByteArray) (hz : S.size ≤ 2000) (w : World) (he : Env w) : Calls Tryz.prog 6 #[.string S] w fun e w' => e = .returned (.bool true) ∧ Below w.heap.size w w' := by
  have hd : decide ((2000 : Int) < (S.size : Int)) = false := decide_eq_false (by omega)
  have hbl : (by_ S).length ≤ 2000 := by rw [by_len]; exact hz
  have HN := Lib.hid fun (W : World) (h : Env W) => names_any S W h
  have HP := Lib.hid fun (W : World) (h : Env W) => parse_any S W h
  have hcase := Lib.hid (names_cases (by_ S))
  have hmore : Hid (∀ d, readS (by_ S) = (d, (0, 0), 0) → readS (by_ S ++ sufB) = (moreD d, (0, 0), 0)) := Lib.hid fun d h => read_more hbl h
  have hfew : Hid (manyD (readS (by_ S)).1 ≤ 1000000) := Lib.hid (readS_few _)
  have HM : Hid (∀ W, Env W → Calls Tryz.prog 20 #[.string (S ++ (⟨#[10, 98, 97, 114, 32, 122, 122, 32, 49, 50, 32, 49, 32, 48, 32, 53, 48, 48, 10, 100, 101, 109, 97, 110, 100, 32, 98, 111, 120, 32, 48, 32, 45, 53, 32, 48, 32, 57, 32, 57, 32, 57, 10]⟩ : ByteArray))] W (NamesE (readS (by_ S ++ sufB)) W)) := Lib.hid fun W h => by
    have := names_any (S ++ (⟨#[10, 98, 97, 114, 32, 122, 122, 32, 49, 50, 32, 49, 32, 48, 32, 53, 48, 48, 10, 100, 101, 109, 97, 110, 100, 32, 98, 111, 120, 32, 48, 32, 45, 53, 32, 48, 32, 57, 32, 57, 32, 57, 10]⟩ : ByteArray)) W h
    rw [by_append] at this
    exact this
  obtain ⟨i0, hi, hz0, hz1, hz2⟩ := info_parts infoStr
  have he0 := Lib.hid he
  go_enter Tryz.func6, Tryz.ntmps6
  go_wp2_with fail
  refine (awake_any w he).mono ?_
  rintro e w1 ⟨rfl, hb1⟩
  have hB1 := Lib.hid hb1
  clear hb1 he
  go_wp2_with fail
  refine (HP.out w1 (he0.out.bel hB1.out)).mono ?_
  rintro e w2 ⟨p, rfl, hV, hb2⟩
  have hB2 := Lib.hid (below_then hB1.out hb2)
  have h1c := detV_one hV
  have hsz := detC_size (srcS (by_ S)).1 p
  have hDV := Lib.hid hV
  clear hV hb2 hB1
  obtain ⟨X, hX⟩ : ∃ X, w2.heap.size = X := ⟨_, rfl⟩
  have hRow : Hid (∀ W9, ((w2.alloc (.cells zeroD 34)).alloc (.cells #[.int .i64 0, .int .i64 0] 43)).setRow X (detC (srcS (by_ S)).1 p) = W9 → At W9 X 34 (detC (srcS (by_ S)).1 p) ∧ At W9 (X + 1) 43 #[.int .i64 0, .int .i64 0] ∧ Hid (Below X w2 W9)) := Lib.hid fun W9 e => by
    have a0 : At ((w2.alloc (.cells zeroD 34)).alloc (.cells #[.int .i64 0, .int .i64 0] 43)) X 34 zeroD := (At.new' hX.symm).al _
    have a1 : At ((w2.alloc (.cells zeroD 34)).alloc (.cells #[.int .i64 0, .int .i64 0] 43)) (X + 1) 43 #[.int .i64 0, .int .i64 0] := At.new' (by simp [hX])
    rw [← e]
    refine ⟨a0.rowAt, a1.row (by omega), Lib.hid (below_row ?_ (Nat.le_refl X) _)⟩
    rw [← hX]
    exact below_al (below_al (Below.refl _ _) _) _
  have hz0' : Hid (At ((w2.alloc (.cells zeroD 34)).alloc (.cells #[.int .i64 0, .int .i64 0] 43)) X 34 zeroD) := Lib.hid ((At.new' hX.symm).al _)
  generalize readS (by_ S) = RS at *
  generalize srcS (by_ S) = SR at *
  generalize readS (by_ S ++ sufB) = RM at *
  obtain ⟨d, ⟨L, C⟩, E⟩ := SR
  obtain ⟨d2, ⟨L2, C2⟩, F⟩ := RS
  dsimp only at *
  go_upto_region 6 with (first | (refine wpList_store_row rfl 34 (.tmp 3) (.tmp 26) rfl X (detC d p) (by simp [Act.eval, hX]) (by simp [Act.eval]) 34 zeroD hz0'.out (by rw [hsz]; kernel_rfl) (by rw [hsz]; rfl) h1c ?_; generalize hW9 : World.setRow _ _ _ = W9; obtain ⟨kX, kQ, hb9⟩ := hRow.out W9 hW9; have y0 : W9.cell? ⟨X + 1, 0, none⟩ = some (.int .i64 0) := kQ.c 0; have y1 : W9.cell? ⟨X + 1, 1, none⟩ = some (.int .i64 0) := kQ.c 1; have yf0 : W9.frozen? ⟨X + 1, 0, none⟩ = false := kQ.f 0; have yf1 : W9.frozen? ⟨X + 1, 1, none⟩ = false := kQ.f 1) | fail)
  generalize hW3 : World.setCell (World.setCell W9 _ _) _ _ = W3
  have kX3 : At W3 X 34 (detC d p) := by rw [← hW3]; exact (kX.ne ⟨X + 1, 0, none⟩ _ (by simp)).ne ⟨X + 1, 1, none⟩ _ (by simp)
  have hb3 : Below X w2 W3 := by rw [← hW3]; exact below_sc (below_sc hb9.out (by omega) 0 _) (by omega) 1 _
  have hV3 := Lib.hid (hDV.out.up (w' := W3) (by rw [hX]; exact hb3))
  have hB3 := Lib.hid (show Below w.heap.size w W3 from hB2.out.trans (hb3.mono (by have := hB2.out.size; omega)))
  clear hW3 hW9 kX kQ hb9 y0 y1 yf0 yf1 hRow hz0' hDV hX hb3 hB2 h1c
  go_wp2_with fail
  refine (HN.out W3 (he0.out.bel hB3.out)).mono ?_
  rintro e w4 ⟨v1, v2, rfl, hs1, hs2, hb4⟩
  go_upto_region 7 with fail
  generalize hW5 : World.alloc w4 _ = W5
  have hb5 : Below w4.heap.size w4 W5 := by rw [← hW5]; exact below_al (Below.refl _ _) _
  have kX5 := (kX3.bel hb4).bel hb5
  have hV5 := Lib.hid ((hV3.out.up hb4).up hb5)
  have hB5 := Lib.hid (below_then (below_then hB3.out hb4) hb5)
  have hS1 := Lib.hid (hs1.up hb5)
  have hS2 := Lib.hid (hs2.up hb5)
  clear hW5 hb5 hb4 kX3 hV3 hB3 hs1 hs2 HN HP
  (try dsimp only at hS1 hS2)
  rcases hcase.out with ⟨hE, hd0, hEF⟩ | ⟨rfl, rfl, rfl, hrd⟩
  · subst hd0
    have hEm := Lib.hid (emp_of hV5.out)
    have hne : (E != 0) = true := by simp [hE]
    have hE2 := Lib.hid hE
    clear hE hcase hmore hfew HM hS1 hS2 hV5 hi hz0 hz1 hz2 he0
    rcases hEF with rfl | ⟨rfl, rfl⟩
    · go_wp2_with (first | (refine wpList_load_row rfl 34 (.tmp 3) rfl X (by simp [Act.eval]) 34 (detC det0 p) (0, 0) _ kX5 Tryz.underlying34 rfl (by rw [hsz]; kernel_rfl) ?_) | fail)
      refine (none_any _ hEm.out W5).mono ?_
      rintro e w6 ⟨rfl, hb6⟩
      have hB6 := Lib.hid (below_then hB5.out hb6)
      clear hb6 hB5 kX5
      go_wp2_with fail
      go_ret
      exact ⟨rfl, hB6.out⟩
    · go_wp2_with (first | (refine wpList_load_row rfl 34 (.tmp 3) rfl X (by simp [Act.eval]) 34 (detC det0 p) (0, 0) _ kX5 Tryz.underlying34 rfl (by rw [hsz]; kernel_rfl) ?_) | fail)
      refine (none_any _ hEm.out W5).mono ?_
      rintro e w6 ⟨rfl, hb6⟩
      have hB6 := Lib.hid (below_then hB5.out hb6)
      clear hb6 hB5 kX5
      go_wp2_with fail
      go_ret
      exact ⟨rfl, hB6.out⟩
  · obtain ⟨rfl, rfl⟩ : L2 = 0 ∧ C2 = 0 := by
      injection hrd with _ q
      injection q with q _
      injection q with q1 q2
      exact ⟨q1, q2⟩
    have hRM := hmore.out d2 rfl
    subst hRM
    obtain ⟨nr, hnr⟩ : ∃ n, d2.bars.length = n := ⟨_, rfl⟩
    obtain ⟨nd, hnd⟩ : ∃ n, d2.dems.length = n := ⟨_, rfl⟩
    have hnr9 : nr ≤ 1000000 := by have := hfew.out; unfold manyD at this; omega
    have hnd9 : nd ≤ 1000000 := by have := hfew.out; unfold manyD at this; omega
    obtain ⟨ar, cr, er, -, -, hrow⟩ := hV5.out.bars
    obtain ⟨ad, cd, ed, -, -, hdow⟩ := hV5.out.dems
    have hzr : (d2.bars.zip p.db).length = d2.bars.length := by rw [List.length_zip, hV5.out.nb]; simp
    have hzd : (d2.dems.zip p.ds).length = d2.dems.length := by rw [List.length_zip, hV5.out.ns]; simp
    rw [hzr, hnr] at er
    rw [hzd, hnd] at ed
    have hMr : Hid ((marksD d2).length = nr) := Lib.hid (by unfold marksD; rw [List.length_map, hnr])
    have hMd : Hid ((namesD d2).length = nd) := Lib.hid (by unfold namesD; rw [List.length_map, hnd])
    obtain ⟨am, cm, em, -, -, hmrow⟩ := hS1.out
    obtain ⟨an, cn, en, -, -, hnrow⟩ := hS2.out
    rw [hMr.out] at em
    rw [hMd.out] at en
    subst em en
    have hXc : Hid (∀ W, Below W5.heap.size W5 W → W.cell? ⟨X, 6, none⟩ = some (.slice ar nr cr) ∧ W.cell? ⟨X, 9, none⟩ = some (.slice ad nd cd)) := Lib.hid fun W hb => by
      rw [← er, ← ed]
      exact ⟨(kX5.bel hb).c 6, (kX5.bel hb).c 9⟩
    have hBar : Hid (∀ W k, Below W5.heap.size W5 W → (hk : k < nr) → ∃ bb off NM e0 e1 e2 v4 bm om, ar = some ⟨bb, off, none⟩ ∧ am = some ⟨bm, om, none⟩ ∧ bm < W.heap.size ∧ W.cell? ⟨bm, om + k, none⟩ = some (.string NM) ∧ W.cell? ⟨bb, off + k * 5, none⟩ = some (.string NM) ∧ W.cell? ⟨bb, off + k * 5 + 1, none⟩ = some (.int .i64 e0) ∧ W.cell? ⟨bb, off + k * 5 + 2, none⟩ = some (.int .i64 e1) ∧ W.cell? ⟨bb, off + k * 5 + 3, none⟩ = some (.int .i64 e2) ∧ W.cell? ⟨bb, off + k * 5 + 4, none⟩ = some v4 ∧ IsSlc v4) := Lib.hid fun W k hbw hk => by
      obtain ⟨bb, off, e, hbl, hc⟩ := hrow k (by rw [hzr, hnr]; exact hk)
      rw [List.getElem_zip] at hc
      obtain ⟨bm, om, e2, hm, hml⟩ := hmrow.one (f := fun s => .string s) k (by rw [hMr.out]; exact hk)
      refine ⟨bb, off, ⟨(d2.bars[k]'(by rw [hnr]; exact hk)).1.toArray⟩, _, _, _, p.db[k]'(by rw [hV5.out.nb, hnr]; exact hk), bm, om, e, e2, Nat.lt_of_lt_of_le hml hbw.size, (hbw.cell hml).trans ?_, (hbw.cell hbl).trans (hc 0 _ rfl), (hbw.cell hbl).trans (hc 1 _ rfl), (hbw.cell hbl).trans (hc 2 _ rfl), (hbw.cell hbl).trans (hc 3 _ rfl), (hbw.cell hbl).trans (hc 4 _ rfl), ?_⟩
      · rw [hm]
        unfold marksD
        rw [List.getElem_map]
      · obtain ⟨a, c, q, _⟩ := hV5.out.dims k (by rw [hnr]; exact hk) (by rw [hV5.out.nb, hnr]; exact hk)
        exact ⟨_, _, _, q⟩
    have hDem : Hid (∀ W k, Below W5.heap.size W5 W → (hk : k < nd) → ∃ bb off NM e0 e1 e2 e3 e4 e5 v4 bm om, ad = some ⟨bb, off, none⟩ ∧ an = some ⟨bm, om, none⟩ ∧ bm < W.heap.size ∧ W.cell? ⟨bm, om + k, none⟩ = some (.string NM) ∧ W.cell? ⟨bb, off + k * 8, none⟩ = some (.string NM) ∧ W.cell? ⟨bb, off + k * 8 + 1, none⟩ = some (.int .i64 e0) ∧ W.cell? ⟨bb, off + k * 8 + 2, none⟩ = some (.int .i64 e1) ∧ W.cell? ⟨bb, off + k * 8 + 3, none⟩ = some (.int .i64 e2) ∧ W.cell? ⟨bb, off + k * 8 + 4, none⟩ = some (.int .i64 e3) ∧ W.cell? ⟨bb, off + k * 8 + 5, none⟩ = some (.int .i64 e4) ∧ W.cell? ⟨bb, off + k * 8 + 6, none⟩ = some (.int .i64 e5) ∧ W.cell? ⟨bb, off + k * 8 + 7, none⟩ = some v4 ∧ IsSlc v4) := Lib.hid fun W k hbw hk => by
      obtain ⟨bb, off, e, hbl, hc⟩ := hdow k (by rw [hzd, hnd]; exact hk)
      rw [List.getElem_zip] at hc
      obtain ⟨bm, om, e2, hm, hml⟩ := hnrow.one (f := fun s => .string s) k (by rw [hMd.out]; exact hk)
      refine ⟨bb, off, ⟨(d2.dems[k]'(by rw [hnd]; exact hk)).1.toArray⟩, _, _, _, _, _, _, p.ds[k]'(by rw [hV5.out.ns, hnd]; exact hk), bm, om, e, e2, Nat.lt_of_lt_of_le hml hbw.size, (hbw.cell hml).trans ?_, (hbw.cell hbl).trans (hc 0 _ rfl), (hbw.cell hbl).trans (hc 1 _ rfl), (hbw.cell hbl).trans (hc 2 _ rfl), (hbw.cell hbl).trans (hc 3 _ rfl), (hbw.cell hbl).trans (hc 4 _ rfl), (hbw.cell hbl).trans (hc 5 _ rfl), (hbw.cell hbl).trans (hc 6 _ rfl), (hbw.cell hbl).trans (hc 7 _ rfl), ?_⟩
      · rw [hm]
        unfold namesD
        rw [List.getElem_map]
      · obtain ⟨a, c, q, _⟩ := hV5.out.steps k (by rw [hnd]; exact hk) (by rw [hV5.out.ns, hnd]; exact hk)
        exact ⟨_, _, _, q⟩
    have hMm : marksD (moreD d2) = marksD d2 ++ [⟨#[122, 122]⟩] := by
      unfold marksD moreD
      rw [List.map_append]
      rfl
    have hNm : namesD (moreD d2) = namesD d2 ++ [⟨#[98, 111, 120]⟩] := by
      unfold namesD moreD
      rw [List.map_append]
      rfl
    have HM2 : Hid (∀ W, Env W → Calls Tryz.prog 20 #[.string (S ++ (⟨#[10, 98, 97, 114, 32, 122, 122, 32, 49, 50, 32, 49, 32, 48, 32, 53, 48, 48, 10, 100, 101, 109, 97, 110, 100, 32, 98, 111, 120, 32, 48, 32, 45, 53, 32, 48, 32, 57, 32, 57, 32, 57, 10]⟩ : ByteArray))] W fun e w' => ∃ v1 v2, e = .returned (.tuple #[v1, v2, .agg #[.int .i64 0, .int .i64 0], .int .i64 0]) ∧ Hid (IsS (marksD d2 ++ [⟨#[122, 122]⟩]) v1 w') ∧ Hid (IsS (namesD d2 ++ [⟨#[98, 111, 120]⟩]) v2 w') ∧ Below W.heap.size W w') := Lib.hid fun W h => (HM.out W h).mono fun e w' ⟨u1, u2, q1, q2, q3, q4⟩ => ⟨u1, u2, q1, Lib.hid (by rw [← hMm]; exact q2), Lib.hid (by rw [← hNm]; exact q3), q4⟩
    have HE5 : Hid (∀ W, Below W5.heap.size W5 W → Env W) := Lib.hid fun W hb => he0.out.bel (below_then hB5.out hb)
    clear hcase hmore hfew HM er ed hrow hdow hzr hzd hmrow hnrow hV5 kX5 hnr hnd hMm hNm he0 hsz hrd
    generalize marksD d2 = mk at *
    generalize namesD d2 = dk at *
    obtain ⟨x6, x9⟩ := hXc.out W5 (Below.refl _ _)
    go_wp2_with fail
    go_loopg [74] nr (fun g i wr => ∃ (k : Nat), k ≤ nr ∧ i = .int .i64 (k : Int) ∧ Hid (g = nr - k) ∧ Hid (Below W5.heap.size W5 wr))
    case atStart => exact ⟨0, Nat.zero_le _, rfl, Lib.hid rfl, Lib.hid (Below.refl _ _)⟩
    case round =>
      clear x6 x9
      obtain ⟨k, hk, rfl, hg, hb⟩ := hrel
      by_cases hlt : k < nr
      · obtain ⟨bb, off, NM, e0, e1, e2, v4, bm, om, rfl, rfl, hbl, r0, q0, q1, q2, q3, q4, s1, s2, s3, rfl⟩ := hBar.out wr k hb.out hlt
        go_upto_region 14 with fail
        generalize hWW : World.alloc wr _ = W1
        have kb : At W1 wr.heap.size 56 #[.string NM, .int .i64 e0, .int .i64 e1, .int .i64 e2, .slice s1 s2 s3] := by rw [← hWW]; exact At.new' rfl
        have hb1 : Below wr.heap.size wr W1 := by rw [← hWW]; exact below_al (Below.refl _ _) _
        have r1 : W1.cell? ⟨bm, om + k, none⟩ = some (.string NM) := (hb1.cell hbl).trans r0
        have b0 : W1.cell? ⟨wr.heap.size, 0, none⟩ = some (.string NM) := kb.c 0
        have hB6 := Lib.hid (below_then hb.out hb1)
        clear hWW q0 q1 q2 q3 q4 kb hb r0 hb1 hbl
        go_wp2_with fail
        go_quiet (fail)
        go_wp2_with fail
        go_roundg (nr - (k + 1))
        case measure => have := hg.out; omega
        case rel => exact ⟨k + 1, by omega, by go_num, Lib.hid rfl, Lib.hid (below_drewN hB6.out _)⟩
      · obtain ⟨wo, rfl⟩ : ∃ wo, wo = wr := ⟨_, rfl⟩
        obtain rfl : nr = k := by omega
        obtain ⟨-, x9⟩ := hXc.out wo hb.out
        clear hlt hBar hg hXc
        go_wp2_with fail
        go_loopg [90] nd (fun g i wr => ∃ (k : Nat), k ≤ nd ∧ i = .int .i64 (k : Int) ∧ Hid (g = nd - k) ∧ Hid (Below W5.heap.size W5 wr))
        case atStart => exact ⟨0, Nat.zero_le _, rfl, Lib.hid rfl, hb⟩
        case round =>
          clear x9
          obtain ⟨j, hj, rfl, hg, hb6⟩ := hrel
          by_cases hlt : j < nd
          · obtain ⟨bb, off, NM, e0, e1, e2, e3, e4, e5, v4, bm, om, rfl, rfl, hbl, r0, q0, q1, q2, q3, q4, q5, q6, q7, s1, s2, s3, rfl⟩ := hDem.out wr j hb6.out hlt
            go_upto_region 20 with fail
            generalize hWW : World.alloc wr _ = W1
            have kb : At W1 wr.heap.size 63 #[.string NM, .int .i64 e0, .int .i64 e1, .int .i64 e2, .int .i64 e3, .int .i64 e4, .int .i64 e5, .slice s1 s2 s3] := by rw [← hWW]; exact At.new' rfl
            have hb1 : Below wr.heap.size wr W1 := by rw [← hWW]; exact below_al (Below.refl _ _) _
            have r1 : W1.cell? ⟨bm, om + j, none⟩ = some (.string NM) := (hb1.cell hbl).trans r0
            have b0 : W1.cell? ⟨wr.heap.size, 0, none⟩ = some (.string NM) := kb.c 0
            have hB6 := Lib.hid (below_then hb6.out hb1)
            clear hWW q0 q1 q2 q3 q4 q5 q6 q7 kb hb6 r0 hb1 hbl
            go_wp2_with fail
            go_quiet (fail)
            go_wp2_with fail
            go_roundg (nd - (j + 1))
            case measure => have := hg.out; omega
            case rel => exact ⟨j + 1, by omega, by go_num, Lib.hid rfl, Lib.hid (below_drewN hB6.out _)⟩
          · obtain rfl : nd = j := by omega
            have hct : (9223372036854775807 < S.size + 43) = False := eq_false (by omega)
            have hsb : (⟨#[10, 98, 97, 114, 32, 122, 122, 32, 49, 50, 32, 49, 32, 48, 32, 53, 48, 48, 10, 100, 101, 109, 97, 110, 100, 32, 98, 111, 120, 32, 48, 32, 45, 53, 32, 48, 32, 57, 32, 57, 32, 57, 10]⟩ : ByteArray).size = 43 := rfl
            have hS1' : IsS mk (.slice am nr cm) wr := hS1.out.up hb6.out
            have hS2' : IsS dk (.slice an nd cn) wr := hS2.out.up hb6.out
            have hBw := Lib.hid (below_then hB5.out hb6.out)
            have hEw := Lib.hid (HE5.out wr hb6.out)
            replace hS1 := Lib.hid hS1'
            replace hS2 := Lib.hid hS2'
            clear hS1' hS2' HE5 hb hb6 hDem hlt hg hB5
            go_wp2_with fail
            refine (HM2.out wr hEw.out).mono ?_
            rintro e w7 ⟨u1, u2, rfl, hU1, hU2, hb7⟩
            go_upto_region 24 with fail
            generalize hW8 : World.alloc w7 _ = W8
            have hb8 : Below w7.heap.size w7 W8 := by rw [← hW8]; exact below_al (Below.refl _ _) _
            have hB8 := Lib.hid (below_then (below_then hBw.out hb7) hb8)
            have tS1 := Lib.hid ((hS1.out.up hb7).up hb8)
            have tS2 := Lib.hid ((hS2.out.up hb7).up hb8)
            have tU1 := Lib.hid (hU1.out.up hb8)
            have tU2 := Lib.hid (hU2.out.up hb8)
            clear hW8 hb8 hb7 hS1 hS2 hU1 hU2 hBw hEw HM2
            go_wp2_with fail
            refine (cloneS_any mk _ (by rw [hMr.out]; omega) W8 tS1.out).mono ?_
            rintro e w9 ⟨⟨c1, rfl, hc1⟩, hb9⟩
            rw [hMr.out] at hc1
            have hsz9 := hb9.size
            have hcl : Hid (∀ o, (w9.alloc o).ownsRow W8.heap.size 9 1 c1 nr (mk.flatMap encS)) := Lib.hid fun o => World.ownsRow.alloc hc1.out o
            have hb9' := Lib.hid hb9
            clear tS1 hc1 hb9
            go_wp2_with (at_builtin; refine wpList_append_w (by rfl) (.tmp 116) (.tmp 117) 51 rfl W8.heap.size 9 i0 (.string ⟨#[]⟩) 1 16 Tryz.underlying51 hi hz0 hz1 hz2 rfl (by decide) c1 nr (mk.flatMap encS) (by first | rfl | (simp [Act.eval]; done)) (hcl.out _) ⟨w9.heap.size, 0, none⟩ 1 1 [.string ⟨#[122, 122]⟩] (by first | rfl | (simp [Act.eval]; done)) rfl (cell_one_new _ _ _) (by intro u hu; simp at hu; subst hu; rfl) (by unfold maxLen; omega) (by omega) (by simp; omega) ?_)
            intro ao cap w10 ho hgr
            have hb10 : Below W8.heap.size W8 w10 := grown_z rfl (below_al hb9'.out _) (hcl.out _) hgr
            have hJ := Lib.hid (isS_snoc hMr.out ho)
            have tU1' := Lib.hid (tU1.out.up hb10)
            have tU2' := Lib.hid (tU2.out.up hb10)
            have tS2' := Lib.hid (tS2.out.up hb10)
            have hB10 := Lib.hid (below_then hB8.out hb10)
            clear ho hgr hb10 hcl hb9' tU1 tU2 tS2 hB8 hsz9
            go_wp2_with fail
            refine (eqS_same _ _ _ w10 (by rw [List.length_append, hMr.out]; simp; omega) tU1'.out hJ.out).mono ?_
            rintro e w11 ⟨rfl, hb11⟩
            have tU3 := Lib.hid (tU2'.out.up hb11)
            have tS3 := Lib.hid (tS2'.out.up hb11)
            have hB11 := Lib.hid (below_then hB10.out hb11)
            clear hb11 tU1' hJ tU2' tS2' hB10
            go_wp2_with fail
            refine (cloneS_any dk _ (by rw [hMd.out]; omega) w11 tS3.out).mono ?_
            rintro e w12 ⟨⟨c2, rfl, hc2⟩, hb12⟩
            rw [hMd.out] at hc2
            have hsz12 := hb12.size
            have hcl : Hid (∀ o, (w12.alloc o).ownsRow w11.heap.size 9 1 c2 nd (dk.flatMap encS)) := Lib.hid fun o => World.ownsRow.alloc hc2.out o
            have hb12' := Lib.hid hb12
            clear tS3 hc2 hb12
            go_wp2_with (at_builtin; refine wpList_append_w (by rfl) (.tmp 124) (.tmp 125) 51 rfl w11.heap.size 9 i0 (.string ⟨#[]⟩) 1 16 Tryz.underlying51 hi hz0 hz1 hz2 rfl (by decide) c2 nd (dk.flatMap encS) (by first | rfl | (simp [Act.eval]; done)) (hcl.out _) ⟨w12.heap.size, 0, none⟩ 1 1 [.string ⟨#[98, 111, 120]⟩] (by first | rfl | (simp [Act.eval]; done)) rfl (cell_one_new _ _ _) (by intro u hu; simp at hu; subst hu; rfl) (by unfold maxLen; omega) (by omega) (by simp; omega) ?_)
            intro ao2 cap2 w13 ho hgr
            have hb13 : Below w11.heap.size w11 w13 := grown_z rfl (below_al hb12'.out _) (hcl.out _) hgr
            have hJ := Lib.hid (isS_snoc hMd.out ho)
            have tU4 := Lib.hid (tU3.out.up hb13)
            have hB13 := Lib.hid (below_then hB11.out hb13)
            clear ho hgr hb13 hcl hb12' tU3 hB11 hsz12
            go_wp2_with fail
            refine (eqS_same _ _ _ w13 (by rw [List.length_append, hMd.out]; simp; omega) tU4.out hJ.out).mono ?_
            rintro e w14 ⟨rfl, hb14⟩
            have hB14 := Lib.hid (below_then hB13.out hb14)
            clear hb14 tU4 hJ hB13
            go_wp2_with fail
            go_ret
            exact ⟨rfl, hB14.out⟩

theorem sourceNames_walk (S : ByteArray) (w : World) (he : Env w) : Calls Tryz.prog 6 #[.string S] w fun e w' => e = .returned (.bool true) ∧ Below w.heap.size w w' := by
  by_cases hz : S.size ≤ 2000
  · exact names_short S hz w he
  · exact names_long S (by omega) w he

end Go.Proofs.YtccakklnbhcbdaaGreatDoor