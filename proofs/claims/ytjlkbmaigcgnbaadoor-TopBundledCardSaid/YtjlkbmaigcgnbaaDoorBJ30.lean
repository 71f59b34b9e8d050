/- bundle.Make: the bundles of a schedule. -/
import Derived.Test.YtjlkbmaigcgnbaaDoorBJ17
import Derived.Test.YtjlkbmaigcgnbaaDoorBJ29
import Derived.Lib.ItoaLen
set_option linter.unusedVariables false
namespace Go.Proofs.YtjlkbmaigcgnbaaDoor
open Go.ChangeShapes Go.WideShapes Go.ChangeAt Go.RowKit
theorem tagL_snoc (o : List Bun) (x : ByteArray × Int × Int) (r : List (ByteArray × Int × Int)) : o ++ tagL o.length (x :: r) = (o ++ [tagB o.length x]) ++ tagL (o ++ [tagB o.length x]).length r := by
  rw [tagL, List.length_append, List.length_singleton, List.append_assoc]
  rfl
theorem tagL_more {o T : List Bun} {r : List (ByteArray × Int × Int)} (h : o ++ tagL o.length r = T) : T.length = o.length + r.length := by
  rw [← h, List.length_append, tagL_len]
theorem four_new {w1 : World} {g : Nat} {t : TypeId} {cs : List Value} (h : At w1 g t cs.toArray) : ∀ j u, cs[j]? = some u → w1.cell? ((⟨g, 0, none⟩ : Addr).add j) = some u := by
  intro j u hj
  have : (⟨g, 0, none⟩ : Addr).add j = ⟨g, j, none⟩ := by cases j <;> simp [Addr.add]
  rw [this, h.c j, ← hj]
  simp
theorem tag_cat (k : Nat) : (⟨#[116]⟩ : ByteArray) ++ ⟨(Lib.itoa ((k : Int) + 1)).toArray⟩ = tagN k := by
  unfold tagN
  apply ByteArray.ext
  simp
structure MkA (most : Int) (l : List Br) (ds : List Value) : Prop where
  ok : ∀ (k : Nat) (hk : k < l.length), barV l[k] = true ∧ massB l[k] ≤ most
  pos : 1 ≤ most ∧ most ≤ 1099511627776
set_option maxRecDepth 100000 in
set_option maxHeartbeats 2000000 in
theorem make_any (l : List Br) (ds : List Value) (a : Option Addr) (cc : Nat) (most : Int) (w : World) (h : BarsV w l ds a cc) (ht : Tab w) : Calls Tryd.prog 6 #[.slice a l.length cc, .int .i64 most] w fun e w' => (∃ v, e = .returned (.tuple #[v, .int .i64 (makeE most l).2]) ∧ IsU (makeE most l).1 v w') ∧ Below w.heap.size w w' := by
  obtain ⟨i0, hi, hz0, hz1, hz2⟩ := info_parts infoBnd
  obtain ⟨RL, hRL⟩ : ∃ R, (makeE most l).1 = R := ⟨_, rfl⟩
  obtain ⟨RE, hRE⟩ : ∃ R, (makeE most l).2 = R := ⟨_, rfl⟩
  rw [hRL, hRE]
  unfold makeE at hRL hRE
  have HS := Lib.hid (fun (W : World) (hW : Below w.heap.size w W) => schV_any l ds a cc W (h.up hW))
  have HT := Lib.hid (fun (n : Int) (hn : -9223372036854775808 ≤ n ∧ n ≤ 9223372036854775807) (W : World) (hW : Below w.heap.size w W) => itoa_tab n hn W (ht.bel hW))
  have HO := Lib.hid (fun (k : Nat) (h1 : k < l.length) (h2 : k < ds.length) (hok : barV l[k] = true) (W : World) (hW : Below w.heap.size w W) => one_any l[k] ds[k] W (h.nm _ (List.getElem_mem h1)) ((h.dims k h1 h2).up hW) hok)
  have HC : Hid (l.all barV = true → ∀ (X : Nat) (W : World), Below w.heap.size w W → At W X 3 #[.int .i64 most] → Calls Tryd.prog 20 #[.slice a l.length cc, .func (.func 21) #[] #[.pointer (some ⟨X, 0, none⟩)]] W fun e w' => e = .returned (.bool (l.any fun b => decide (most < massB b))) ∧ Below W.heap.size W w') := Lib.hid fun hall X W hW kx => by
    have hU := h.up hW
    have H := contBar encQ encQ_len (l.zip ds) a cc (by rw [h.zlen]; exact h.cap) h.cap2 _ W (Nat.le_refl _) (Lib.hid hU.row) 21 (.pointer (some ⟨X, 0, none⟩)) (fun args w => by simp [go_sem]) (fun x => decide (most < massB x.1)) (Lib.hid fun x hx W' hW' => by
      obtain ⟨q1, q2⟩ := hU.zat hx
      exact makeF_any x most X W' (h.nm _ q1) (q2.up hW') (List.all_eq_true.1 hall _ q1) (kx.bel hW'))
    rw [h.zlen] at H
    have e : (l.zip ds).any (fun x => decide (most < massB x.1)) = l.any fun b => decide (most < massB b) := by
      have h1 : (l.zip ds).map Prod.fst = l := List.map_fst_zip (by rw [h.n]; exact Nat.le_refl _)
      conv => rhs; rw [← h1, List.any_map]
      rfl
    rwa [e] at H
  obtain ⟨n, hn⟩ : ∃ n, l.length = n := ⟨_, rfl⟩
  rw [hn] at HS HC ⊢
  have hrow := Lib.hid h.row
  have hzl := Lib.hid h.zlen
  have hdn := Lib.hid h.n
  have hds := Lib.hid (fun (k : Nat) (h1 : k < l.length) (h2 : k < ds.length) => show ∃ da dn dc, ds[k] = .slice da dn dc by obtain ⟨da, dc, e, _⟩ := h.dims k h1 h2; exact ⟨da, _, dc, e⟩)
  have hcap : n ≤ cc := by rw [← hn]; exact h.cap
  have hcap2 := h.cap2
  replace hn := Lib.hid hn
  clear h ht
  cases hv : schV l
  · have hE : Hid (RL = [] ∧ RE = 1) := Lib.hid (by
      rw [if_pos hv] at hRL hRE
      exact ⟨hRL.symm, hRE.symm⟩)
    rw [hv] at HS
    clear hRL hRE HC HO HT hv
    go_enter Tryd.func6, Tryd.ntmps6
    go_wp2_with fail
    have HB : Below w.heap.size w (World.alloc w (.cells #[.int .i64 most] 3)) := below_al (Below.refl _ _) _
    refine (HS.out _ (below_al (Below.refl _ _) _)).mono ?_
    rintro e w1 ⟨rfl, hb⟩
    replace HB := below_then HB hb
    clear hb
    go_wp2_with fail
    exact bodyPost_ret (v := .tuple #[.slice none 0 0, .int .i64 1]) (by simp [results, Tryd.results6, go_sem]) rfl ⟨⟨.slice none 0 0, by rw [hE.out.2], by rw [hE.out.1]; exact isU_nil _⟩, HB⟩
  rw [hv] at HS
  rw [if_neg (by rw [hv]; decide)] at hRL hRE
  have hsv : l.all barV = true ∧ n ≤ 60 := by
    unfold schV at hv
    simp only [Bool.and_eq_true, decide_eq_true_eq] at hv
    exact ⟨hv.1.2, by rw [← hn.out]; exact hv.1.1⟩
  have hn60 := hsv.2
  replace HC := Lib.hid (HC.out hsv.1)
  have hall := Lib.hid hsv.1
  clear hv hsv
  go_enter Tryd.func6, Tryd.ntmps6
  go_wp2_with fail
  generalize hWW : World.alloc w _ = WW
  have kx : At WW w.heap.size 3 #[.int .i64 most] := by rw [← hWW]; exact At.new' rfl
  have HB : Below w.heap.size w WW := by rw [← hWW]; exact below_al (Below.refl _ _) _
  clear hWW
  refine (HS.out _ HB).mono ?_
  rintro e w1 ⟨rfl, hb⟩
  replace HB := below_then HB hb
  replace kx := kx.bel hb
  clear hb HS
  have x0 : w1.cell? ⟨w.heap.size, 0, none⟩ = some (.int .i64 most) := kx.c 0
  by_cases q1 : most < 1
  · have hE : Hid (RL = [] ∧ RE = 2) := Lib.hid (by
      rw [if_pos (.inl q1)] at hRL hRE
      exact ⟨hRL.symm, hRE.symm⟩)
    have g1 : decide (most < 1) = true := decide_eq_true q1
    clear hRL hRE HC HO HT q1
    go_wp2_with fail
    exact bodyPost_ret (v := .tuple #[.slice none 0 0, .int .i64 2]) (by simp [results, Tryd.results6, go_sem]) rfl ⟨⟨.slice none 0 0, by rw [hE.out.2], by rw [hE.out.1]; exact isU_nil _⟩, HB⟩
  have g1 : decide (most < 1) = false := decide_eq_false q1
  by_cases q2 : 1099511627776 < most
  · have hE : Hid (RL = [] ∧ RE = 2) := Lib.hid (by
      rw [if_pos (.inr q2)] at hRL hRE
      exact ⟨hRL.symm, hRE.symm⟩)
    have g2 : decide (1099511627776 < most) = true := decide_eq_true q2
    clear hRL hRE HC HO HT q1 q2
    go_wp2_with fail
    exact bodyPost_ret (v := .tuple #[.slice none 0 0, .int .i64 2]) (by simp [results, Tryd.results6, go_sem]) rfl ⟨⟨.slice none 0 0, by rw [hE.out.2], by rw [hE.out.1]; exact isU_nil _⟩, HB⟩
  have g2 : decide (1099511627776 < most) = false := decide_eq_false q2
  rw [if_neg (by omega)] at hRL hRE
  have HCk := Lib.hid (HC.out w.heap.size w1 HB kx)
  obtain ⟨ov, hov⟩ : ∃ ov, (l.any fun b => decide (most < massB b)) = ov := ⟨_, rfl⟩
  rw [hov] at HCk hRL hRE
  clear HC
  go_wp2_with fail
  refine (HCk.out).mono ?_
  rintro e w2 ⟨rfl, hb⟩
  replace HB := below_then HB hb
  replace kx := kx.bel hb
  clear hb HCk x0
  rcases ov with _ | _
  rotate_left
  · have hE : Hid (RL = [] ∧ RE = 20) := Lib.hid (by
      rw [if_pos rfl] at hRL hRE
      exact ⟨hRL.symm, hRE.symm⟩)
    clear hRL hRE HO HT q1 q2 hov
    go_wp2_with fail
    exact bodyPost_ret (v := .tuple #[.slice none 0 0, .int .i64 20]) (by simp [results, Tryd.results6, go_sem]) rfl ⟨⟨.slice none 0 0, by rw [hE.out.2], by rw [hE.out.1]; exact isU_nil _⟩, HB⟩
  rw [if_neg (by decide)] at hRL hRE
  have hA : MkA most l ds := ⟨fun k hk => ⟨List.all_eq_true.1 hall.out _ (List.getElem_mem hk), by
    have := List.any_eq_false.1 hov _ (List.getElem_mem hk)
    simp at this
    exact this⟩, by omega⟩
  replace hA := Lib.hid hA
  obtain ⟨T, hT⟩ : ∃ T, makeL most l = T := ⟨_, rfl⟩
  have hTl : (rawL most l).length = T.length := by rw [← hT]; unfold makeL; rw [tagL_len]
  rw [hTl, hT] at hRL
  rw [hTl] at hRE
  have hT0 : Hid (([] : List Bun) ++ tagL ([] : List Bun).length (rawL most (l.drop 0)) = T) := Lib.hid hT
  replace hRL := Lib.hid hRL
  replace hRE := Lib.hid hRE
  clear hov hT hTl g1 g2
  have HBH := Lib.hid HB
  have hXl := Lib.hid (kx.lt)
  have hmost : 1 ≤ most ∧ most ≤ 1099511627776 := by omega
  clear q1 q2
  go_wp2_with fail
  go_loopg [30, 6] n (fun g i u wr => ∃ (k : Nat) (o : List Bun) (u0 : Value), u0 = u ∧ k ≤ n ∧ i = .int .i64 (k : Int) ∧ Hid (g = n - k ∧ o ++ tagL o.length (rawL most (l.drop k)) = T ∧ o.length ≤ 1000) ∧ Below w.heap.size w wr ∧ Hid (At wr w.heap.size 3 #[.int .i64 most]) ∧ Hid (wr.ownsRow w2.heap.size 44 4 u o.length (o.flatMap encB)) ∧ Hid (w2.heap.size ≤ wr.heap.size))
  case atStart => exact ⟨0, [], _, rfl, Nat.zero_le _, rfl, Lib.hid ⟨rfl, hT0.out, by simp⟩, HB, Lib.hid kx, Lib.hid (World.ownsRow_nil _ _ _ _), Lib.hid (Nat.le_refl _)⟩
  case round =>
    clear kx HB
    obtain ⟨k, o, u, rfl, hk, rfl, hr, HB, kx, ho, hsz⟩ := hrel
    by_cases hlt : k < n
    · have hkl : Hid (k < l.length) := Lib.hid (by rw [hn.out]; exact hlt)
      have hkd : Hid (k < ds.length) := Lib.hid (by rw [hdn.out]; exact hkl.out)
      have hkz : Hid (k < (l.zip ds).length) := Lib.hid (by rw [hzl.out]; exact hkl.out)
      obtain ⟨bb, off, rfl, c0, c1, c2, c3, c4⟩ := (hrow.out.bel (Nat.le_refl _) HB).bar k hkz.out
      simp only [List.getElem_zip] at c0 c1 c2 c3 c4
      obtain ⟨hbok, hbm⟩ := hA.out.ok k hkl.out
      have HOk := Lib.hid (HO.out k hkl.out hkd.out hbok)
      have hLk := barV_legs hbok
      have hmb := mass_le hLk
      have hwp := wholeN_pos hLk hbm
      have hwm : Hid (∀ q : Nat, q ≤ wholeN most (l[k]'hkl.out) → 0 ≤ (q : Int) * massB (l[k]'hkl.out) ∧ (q : Int) * massB (l[k]'hkl.out) ≤ most) := Lib.hid fun q hq => wholeN_mass hLk hbm hq
      have hcnt : 1 ≤ (l[k]'hkl.out).count ∧ (l[k]'hkl.out).count ≤ 1000 := by
        unfold barV at hbok
        simp only [Bool.and_eq_true, decide_eq_true_eq] at hbok
        exact ⟨hbok.1.1.1.2, hbok.1.1.2⟩
      have hwd : wholeN most (l[k]'hkl.out) = (most / max 1 (massB (l[k]'hkl.out))).toNat := rfl
      have hraw := Lib.hid (rawL_drop (most := most) hkl.out)
      obtain ⟨da, dn, dc, hdv⟩ := hds.out k hkl.out hkd.out
      obtain ⟨x, hx⟩ : ∃ x, l[k]'hkl.out = x := ⟨_, rfl⟩
      rw [hx] at c0 c1 c2 c3 HOk hmb hwp hwm hcnt hraw hwd
      rw [hdv] at c4 HOk
      clear hdv hx hLk hbm hbok
      obtain ⟨wh, hwh⟩ : ∃ wh, wholeN most x = wh := ⟨_, rfl⟩
      obtain ⟨M, hM⟩ : ∃ M, massB x = M := ⟨_, rfl⟩
      have hrb : Hid (rawB most x = partL x (splitN wh x.count.toNat x.count.toNat)) := Lib.hid (by unfold rawB; rw [hwh])
      have hpl : Hid (∀ q r, partL x (q :: r) = (x.mark, (q : Int), (q : Int) * M) :: partL x r) := Lib.hid fun q r => by unfold partL; rw [List.map_cons, hM]
      rw [hwh] at hwp hwm hwd
      rw [hM] at HOk hmb hwm hwd
      clear hwh hM
      unfold barC at HOk
      obtain ⟨mk, sz, ct, c, dd⟩ := x
      dsimp only at c0 c1 c2 c3 HOk hcnt hpl hrb
      have hqq : most.tdiv M = (wh : Int) := by
        rw [Int.tdiv_eq_ediv_of_nonneg (by omega), hwd, show max 1 M = M by omega]
        have := Int.ediv_nonneg (show 0 ≤ most by omega) (show 0 ≤ M by omega)
        omega
      have hwhb : (wh : Int) ≤ 1099511627776 := by
        rw [← hqq, Int.tdiv_eq_ediv_of_nonneg (by omega)]
        have := Int.ediv_le_self M (show 0 ≤ most by omega)
        omega
      have u1 : IntKind.i64.wrap (wh : Int) = (wh : Int) := IntWalk.i64_in _ (by omega)
      have u2 : max 1 M = M := by omega
      have u3 : ¬ M = 0 := by omega
      have u4 : (M == 0) = false := by simp; omega
      obtain ⟨ct2, hct2⟩ : ∃ ct2 : Nat, ct = (ct2 : Int) := ⟨ct.toNat, by omega⟩
      subst hct2
      rw [Int.toNat_natCast] at hrb
      have hst0 : Hid (o ++ tagL o.length (partL ⟨mk, sz, (ct2 : Int), c, dd⟩ (splitN wh ct2 ct2) ++ rawL most (l.drop (k + 1))) = T) := Lib.hid (by
        have := hr.out.2.1
        rwa [hraw.out, hrb.out] at this)
      clear hwd hrb hraw
      have hno := Lib.hid (show u.ownBlock ≠ some wr.heap.size from fun e => by have := (own_lt ho.out e).1; omega)
      go_upto_region 11 with fail
      generalize hWW : World.alloc wr _ = W3
      have kb : At W3 wr.heap.size 50 #[.string mk, .int .i64 sz, .int .i64 (ct2 : Int), .int .i64 c, .slice da dn dc] := by rw [← hWW]; exact At.new' rfl
      have hbW : Below wr.heap.size wr W3 := by rw [← hWW]; exact below_al (Below.refl _ _) _
      replace HB := below_then HB hbW
      replace kx := Lib.hid (At.bel kx.out hbW)
      replace ho := Lib.hid (World.ownsRow_up ho.out hbW)
      have hsz2 := Lib.hid (Nat.le_trans hsz.out hbW.size)
      clear hWW hbW c0 c1 c2 c3 c4
      have x0 : W3.cell? ⟨wr.heap.size, 0, none⟩ = some (.string mk) := kb.c 0
      have x1 : W3.cell? ⟨wr.heap.size, 1, none⟩ = some (.int .i64 sz) := kb.c 1
      have x2 : W3.cell? ⟨wr.heap.size, 2, none⟩ = some (.int .i64 (ct2 : Int)) := kb.c 2
      have x3 : W3.cell? ⟨wr.heap.size, 3, none⟩ = some (.int .i64 c) := kb.c 3
      have x4 : W3.cell? ⟨wr.heap.size, 4, none⟩ = some (.slice da dn dc) := kb.c 4
      go_wp2_with fail
      refine (HOk.out _ HB).mono ?_
      rintro e w4 ⟨rfl, hb⟩
      replace HB := below_then HB hb
      replace kx := Lib.hid (At.bel kx.out hb)
      replace ho := Lib.hid (World.ownsRow_up ho.out hb)
      replace kb := kb.bel hb
      replace hsz2 := Lib.hid (Nat.le_trans hsz2.out hb.size)
      clear hb x0 x1 x2 x3 x4 HOk
      have x2 : w4.cell? ⟨wr.heap.size, 2, none⟩ = some (.int .i64 (ct2 : Int)) := kb.c 2
      have y0 : w4.cell? ⟨w.heap.size, 0, none⟩ = some (.int .i64 most) := kx.out.c 0
      have hkb := Lib.hid kb
      clear kb
      obtain ⟨BK, hBK⟩ : ∃ BK, wr.heap.size = BK := ⟨_, rfl⟩
      rw [hBK] at hkb x2 hno ⊢
      clear hBK
      go_wp2_with fail
      go_loopg [11, 6] ct2 (fun g i u wq => ∃ (m : Nat) (o : List Bun) (u0 : Value), u0 = u ∧ m ≤ 1000 ∧ i = .int .i64 (m : Int) ∧ Hid (g = m ∧ o ++ tagL o.length (partL ⟨mk, sz, (ct2 : Int), c, dd⟩ (splitN wh m m) ++ rawL most (l.drop (k + 1))) = T ∧ o.length ≤ 1000) ∧ Below w.heap.size w wq ∧ Hid (At wq w.heap.size 3 #[.int .i64 most]) ∧ Hid (At wq BK 50 #[.string mk, .int .i64 sz, .int .i64 (ct2 : Int), .int .i64 c, .slice da dn dc]) ∧ Hid (wq.ownsRow w2.heap.size 44 4 u o.length (o.flatMap encB)) ∧ Hid (w2.heap.size ≤ wq.heap.size) ∧ Hid (u.ownBlock ≠ some BK))
      case atStart => exact ⟨ct2, o, _, rfl, by omega, rfl, Lib.hid ⟨rfl, hst0.out, hr.out.2.2⟩, HB, kx, hkb, ho, hsz2, hno⟩
      case round =>
        clear kx HB ho hkb x2 y0 hst0 hsz2 hno
        obtain ⟨m, o2, u, rfl, hm, rfl, hr2, HB, kx, hkb, ho, hsz2, hno⟩ := hrel
        by_cases hm0 : 0 < m
        · obtain ⟨q, hq⟩ : ∃ q, min m wh = q := ⟨_, rfl⟩
          have hsp := splitN_next hwp (show 1 ≤ m by omega)
          rw [hq] at hsp
          have hqb : q ≤ wh ∧ q ≤ m ∧ 1 ≤ q := by omega
          have v1 : min (m : Int) (wh : Int) = (q : Int) := by omega
          have gm : decide ((0 : Int) < (m : Int)) = true := decide_eq_true (by omega)
          obtain ⟨nv, cv, hu⟩ := own_slice ho.out
          subst hu
          have hmq := hwm.out q hqb.1
          obtain ⟨p, hp⟩ : ∃ p, (q : Int) * M = p := ⟨_, rfl⟩
          rw [hp] at hmq
          have hst : Hid (o2 ++ tagL o2.length ((mk, (q : Int), p) :: (partL ⟨mk, sz, (ct2 : Int), c, dd⟩ (splitN wh (m - q) (m - q)) ++ rawL most (l.drop (k + 1)))) = T) := Lib.hid (by
            have := hr2.out.2.1
            rw [hsp, hpl.out, hp, List.cons_append] at this
            exact this)
          obtain ⟨on, hon⟩ : ∃ on, o2.length = on := ⟨_, rfl⟩
          have hon2 := hr2.out.2.2
          rw [hon] at hon2 ho hno
          by_cases hf : on = 1000
          · have hE : Hid (RL = [] ∧ RE = 4) := Lib.hid (by
              have h1 := tagL_more hst.out
              rw [List.length_cons] at h1
              have h2 : 1000 < T.length := by omega
              have e1 := hRL.out
              have e2 := hRE.out
              rw [if_pos h2] at e1 e2
              exact ⟨e1.symm, e2.symm⟩)
            subst hf
            rw [hon]
            clear hon hst hp hq hqb
            go_wp2_with fail
            exact bodyPost_ret (v := .tuple #[.slice none 0 0, .int .i64 4]) (by simp [results, Tryd.results6, go_sem]) rfl ⟨⟨.slice none 0 0, by rw [hE.out.2], by rw [hE.out.1]; exact isU_nil _⟩, HB⟩
          rw [hon]
          have hon3 : Hid (on + 1 ≤ 1000) := Lib.hid (by omega)
          have g4 : ((on : Int) == 1000) = false := by simp; omega
          have v2 : IntKind.i64.wrap ((on : Int) + 1) = (on : Int) + 1 := IntWalk.i64_in _ (by omega)
          have v3 : IntKind.i64.wrap ((q : Int) * M) = p := by rw [hp, IntWalk.i64_in _ (by omega)]
          obtain ⟨m2, hm2⟩ : ∃ m2, m - q = m2 := ⟨_, rfl⟩
          have v4 : IntKind.i64.wrap ((m : Int) - (q : Int)) = (m2 : Int) := by rw [IntWalk.i64_in _ (by omega)]; omega
          have HTk := Lib.hid (HT.out ((on : Int) + 1) (by omega))
          obtain ⟨TG, hTG⟩ : ∃ TG : ByteArray, (⟨(Lib.itoa ((on : Int) + 1)).toArray⟩ : ByteArray) = TG := ⟨_, rfl⟩
          rw [hTG] at HTk
          have hcat : (⟨#[116]⟩ : ByteArray) ++ TG = tagN on := by rw [← hTG]; exact tag_cat on
          have hts : TG.size ≤ 21 := by
            have := Lib.itoa_length_le ((on : Int) + 1) (by omega) (by omega)
            have e : TG.size = (Lib.itoa ((on : Int) + 1)).length := by rw [← hTG]; rfl
            omega
          have hts2 : (9223372036854775807 < 1 + TG.size) = False := eq_false (by omega)
          have htl : m2 < m := by omega
          have hst2 : Hid ((o2 ++ [⟨tagN on, mk, (q : Int), p⟩]) ++ tagL (o2 ++ [(⟨tagN on, mk, (q : Int), p⟩ : Bun)]).length (partL ⟨mk, sz, (ct2 : Int), c, dd⟩ (splitN wh m2 m2) ++ rawL most (l.drop (k + 1))) = T) := Lib.hid (by
            have := hst.out
            rw [tagL_snoc, hm2] at this
            unfold tagB at this
            rw [hon] at this
            exact this)
          obtain ⟨TN, hTN⟩ : ∃ TN, tagN on = TN := ⟨_, rfl⟩
          rw [hTN] at hcat hst2
          have x0 : wr.cell? ⟨BK, 0, none⟩ = some (.string mk) := hkb.out.c 0
          replace hon := Lib.hid hon
          replace hr2 := Lib.hid hr2.out.1
          have hmp := hmq
          clear hst hp hq hqb hTG hTN hm2 hmq hsp hf
          have hAft : Hid (∀ W w6, Below wr.heap.size wr W → Below W.heap.size W w6 → w6.cell? ⟨BK, 0, none⟩ = some (.string mk) ∧ Hid (w6.ownsRow w2.heap.size 44 4 (.slice nv on cv) on (o2.flatMap encB)) ∧ Hid (Below wr.heap.size wr w6)) := Lib.hid fun W w6 hW h6 => by
            have hb := below_then hW h6
            exact ⟨cell_up hb x0, Lib.hid (World.ownsRow_up ho.out hb), Lib.hid hb⟩
          have hPu : Hid (∀ w6 w5 g5 c5 cs t, Below wr.heap.size wr w6 → w5.ownsRow w2.heap.size 44 4 (.slice g5 (on + 1) c5) (on + 1) (o2.flatMap encB ++ [.string TN, .string mk, .int .i64 (q : Int), .int .i64 p]) → (w6.alloc (.cells cs t)).grownBy w5 (Value.slice nv on cv).ownBlock → ((Value.slice g5 (on + 1) c5).ownBlock = (Value.slice nv on cv).ownBlock ∨ (Value.slice g5 (on + 1) c5).ownBlock = some (w6.alloc (.cells cs t)).heap.size) →
              Hid (Below w.heap.size w w5) ∧ Hid (At w5 w.heap.size 3 #[.int .i64 most]) ∧ Hid (At w5 BK 50 #[.string mk, .int .i64 sz, .int .i64 (ct2 : Int), .int .i64 c, .slice da dn dc]) ∧ Hid (w5.ownsRow w2.heap.size 44 4 (.slice g5 (on + 1) c5) (o2 ++ [(⟨TN, mk, (q : Int), p⟩ : Bun)]).length ((o2 ++ [(⟨TN, mk, (q : Int), p⟩ : Bun)]).flatMap encB)) ∧ Hid (w2.heap.size ≤ w5.heap.size) ∧ Hid ((Value.slice g5 (on + 1) c5).ownBlock ≠ some BK)) := Lib.hid fun w6 w5 g5 c5 cs t h6 ho5 hg5 hloc => by
            have hg := grown_after (below_then h6 (below_al (Below.refl _ _) _)) hg5
            have hown : ∀ b, (Value.slice nv on cv).ownBlock = some b → w2.heap.size ≤ b := fun b hb => (own_lt ho.out hb).2
            have hw2 := HBH.out.size
            refine ⟨Lib.hid (below_grown HB hg (fun b hb => Nat.le_trans hw2 (hown b hb))), Lib.hid (at_grown kx.out hg (fun e => ?_)), Lib.hid (at_grown hkb.out hg (fun e => ?_)), Lib.hid ?_, Lib.hid (Nat.le_trans hsz2.out hg.size), Lib.hid (fun e => ?_)⟩
            · have := hown _ e
              have := hXl.out
              omega
            · exact hno.out e
            · rw [List.length_append, List.flatMap_append, hon.out]
              exact ho5
            · rcases hloc with q | q
              · exact hno.out (q.symm.trans e)
              · have h1 := q.symm.trans e
                injection h1 with h1
                have h2 := hkb.out.lt
                have h3 := h6.size
                simp at h1
                omega
          go_upto_region 18 with fail
          go_region_law (first
            | (go_simp; go_at_call 23; refine (HTk.out _ (by first | exact below_drew HB | exact HB)).mono ?_; rintro e w6 ⟨rfl, hb6⟩; obtain ⟨x06, ho6, hb7⟩ := hAft.out _ w6 (by first | exact below_drew (Below.refl _ _) | exact Below.refl _ _) hb6; clear hb6)
            | (refine step_append_at _ rfl (.tmp 50) (.tmp 63) 25 rfl w2.heap.size 44 i0 (.agg #[.string ⟨#[]⟩, .string ⟨#[]⟩, .int .i64 0, .int .i64 0]) 4 48 (by kernel_rfl) hi hz0 hz1 hz2 rfl (by decide) (.slice nv on cv) on (o2.flatMap encB) (by simp [Act.eval]) (World.ownsRow.alloc ho6.out _) ⟨w6.heap.size, 0, none⟩ 1 1 [.string TN, .string mk, .int .i64 (q : Int), .int .i64 p] (by simp [Act.eval]) rfl (four_new (At.new _ _ _)) (by intro u hu; simp at hu; rcases hu with rfl | rfl | rfl | rfl <;> rfl) (by unfold maxLen; omega) (by omega) (by have := hb7.out.size; have := hsz2.out; simp; omega) ?_; intro g5 c5 w5 ho5 hg5 hloc; obtain ⟨HB5, kx5, hkb5, ho7, hsz5, hno5⟩ := hPu.out w6 w5 g5 c5 _ _ hb7.out ho5 hg5 hloc; clear ho5 hg5 hloc))
          all_goals
            go_wp2_with fail
            go_roundg m2
            case measure => have := hr2.out; omega
            case rel => exact ⟨m2, _, _, rfl, by omega, by go_num, Lib.hid ⟨rfl, hst2.out, by rw [List.length_append, hon.out]; exact hon3.out⟩, HB5.out, kx5, hkb5, ho7, hsz5, hno5⟩
        · have h0 : m = 0 := by omega
          subst h0
          have hst : Hid (o2 ++ tagL o2.length (rawL most (l.drop (k + 1))) = T) := Lib.hid (by
            have := hr2.out.2.1
            rwa [splitN_zero, show partL ⟨mk, sz, (ct2 : Int), c, dd⟩ [] = [] from rfl, List.nil_append] at this)
          go_wp2_with fail
          go_roundg (n - (k + 1))
          case measure => have := hr.out.1; omega
          case rel => exact ⟨k + 1, o2, _, rfl, by omega, by go_num, Lib.hid ⟨rfl, hst.out, hr2.out.2.2⟩, HB, kx, ho, hsz2⟩
    · have hE : Hid (RL = o ∧ RE = 0) := Lib.hid (by
        have h1 := hr.out.2.1
        rw [List.drop_eq_nil_of_le (by have := hn.out; omega), show rawL most [] = [] from rfl, tagL, List.append_nil] at h1
        have h2 : ¬ 1000 < T.length := by rw [← h1]; have := hr.out.2.2; omega
        have e1 := hRL.out
        have e2 := hRE.out
        rw [if_neg h2] at e1 e2
        exact ⟨by rw [← e1, ← h1], e2.symm⟩)
      go_wp2_with fail
      exact bodyPost_ret (v := .tuple #[u, .int .i64 0]) (by simp [results, Tryd.results6, go_sem]) rfl ⟨⟨u, by rw [hE.out.2], by rw [hE.out.1]; exact row_isU ho.out⟩, HB⟩
end Go.Proofs.YtjlkbmaigcgnbaaDoor
