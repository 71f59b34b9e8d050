/- journal: Good, Recover, Append. -/
import Derived.Test.YtdcfpopbnkafaaaDoorJoI
import Derived.Shelf.SlicesE.Clone
import Derived.Ground.SlgnProg
import Derived.Shelf.Lay
set_option linter.unusedVariables false
namespace Go.Proofs.YtdcfpopbnkafaaaDoor
open Go.ChangeShapes Go.WideShapes Go.ChangeAt Go.RowKit Go.Shelf

open Go.Lib (decDigits itoa itoa_nonneg)
shelf_lay_g SlLaysE0.n41 Slgn 41 at Tryd 30 as Tryd.cloneByt
noncomputable def u8I : TypeInfo := (Tryd.prog.info? 5).get (by kernel_rfl)
theorem cloneB_v (l : List UInt8) (v : Value) (hl : l.length ≤ 100000) (w : World) (h : IsB l v w) :
    Calls Tryd.prog 30 #[v] w fun e w' => (∃ cy cc, e = .returned (.slice cy l.length cc) ∧ Hid (w'.ownsRow w.heap.size 5 1 (.slice cy l.length cc) l.length (l.flatMap encU))) ∧ Below w.heap.size w w' := by
  obtain ⟨ao, cap, rfl, h2, h3, h4, h5⟩ := h
  rcases h5 with ⟨rfl, rfl⟩ | ⟨b, off, rfl⟩
  · obtain rfl := List.length_eq_zero_iff.1 (Nat.le_zero.1 h2)
    refine (AnyE.slices_Clone_nil Tryd.cloneByt 0 0 w).mono ?_
    rintro e w' ⟨rfl, rfl⟩
    exact ⟨⟨none, 0, rfl, Lib.hid (World.ownsRow_nil _ _ _ _)⟩, Below.refl _ _⟩
  · refine (AnyE.slices_Clone Tryd.cloneByt u8I (.int .u8 0) 1 1 (by kernel_rfl) (by kernel_rfl) (by kernel_rfl) (by kernel_rfl) rfl (by decide) Tryd.sizeOf5 b off l.length cap (l.flatMap encU) w (flat_len encU_len l) (by unfold maxLen; omega) (by omega) (h4.flat encU_len (by decide)) ?_).mono ?_
    · intro u hu
      obtain ⟨x, _, hx⟩ := List.mem_flatMap.1 hu
      simp [encU] at hx
      subst hx
      rfl
    · rintro e w' ⟨y, rfl, h1, h2, h3⟩
      obtain ⟨cy, cc, rfl⟩ := own_slice h1
      exact ⟨⟨cy, cc, rfl, Lib.hid h1⟩, h3⟩
/-- What Good and Recover hand back. -/
def gooN (b : List UInt8) : Nat × Nat × Int := if 1048576 < b.length then (0, 0, 4) else ((goodJ b).1.length, (goodJ b).2.1, 0)
def recN (b : List UInt8) : Int := if 1048576 < b.length then 4 else 0
def recL (b : List UInt8) : List Ent := if 1048576 < b.length then [] else (goodJ b).1
def recB (b : List UInt8) : List UInt8 := if 1048576 < b.length then [] else b.take (goodJ b).2.1

set_option maxRecDepth 100000 in
set_option maxHeartbeats 2000000 in
theorem goodN_v (b : List UInt8) (v : Value) (hbl : b.length ≤ 1000000 ∨ 1048576 < b.length) (w : World) (he : Env w) (hv : IsB b v w) :
    Calls Tryd.prog 25 #[v] w fun e w' => e = .returned (.tuple #[.int .i64 ((gooN b).1 : Nat), .int .i64 ((gooN b).2.1 : Nat), .int .i64 (gooN b).2.2]) ∧ Below w.heap.size w w' := by
  obtain ⟨a, n, c, rfl, hn0, hnc, hcm⟩ := hv.shape
  have he0 := Lib.hid he
  have hv0 := Lib.hid hv
  by_cases hbig : 1048576 < n
  · have hbig2 : 1048576 < b.length := by omega
    have hE : Hid (gooN b = (0, 0, 4)) := Lib.hid (by unfold gooN; rw [if_pos hbig2])
    have hbig' : (decide ((1048576 : Int) < (n : Int))) = true := by simp; omega
    clear hbl hn0 hbig he hv hbig2
    go_enter Tryd.func25, Tryd.ntmps25
    go_wp2_with fail
    exact bodyPost_ret (v := .tuple #[.int .i64 0, .int .i64 0, .int .i64 4]) (by simp [results, Tryd.results25, go_sem]) rfl ⟨by rw [hE.out]; rfl, Below.refl _ _⟩
  have hnb : Hid (¬ 1048576 < b.length) := Lib.hid (by omega)
  have hbig' : (decide ((1048576 : Int) < (n : Int))) = false := by simp; omega
  have HG := Lib.hid (good_v b _ (by omega) w he hv)
  have hbn : Hid (n ≤ 1000000) := Lib.hid (by omega)
  obtain ⟨l, t, e, hg, hbt, htk, hdr, hst, hez, hvl⟩ := good_parts b
  have hg' := Lib.hid hg
  rw [hg] at HG
  dsimp only at HG
  obtain ⟨at_, hat⟩ : ∃ at_, (encJ l).length = at_ := ⟨_, rfl⟩
  rw [hat] at HG
  have hatn : at_ ≤ n := by
    have := congrArg List.length hbt
    rw [List.length_append] at this
    omega
  replace hn0 := Lib.hid hn0
  replace hat := Lib.hid hat
  have hl0 : Hid (l.length ≤ 1000) := Lib.hid (by
    unfold logV at hvl
    simp only [Bool.and_eq_true, decide_eq_true_eq] at hvl
    exact hvl.1.1)
  clear hbl hbig he hv hg hbt htk hdr hst hez hvl
  go_enter Tryd.func25, Tryd.ntmps25
  go_wp2_with fail
  refine HG.out.mono ?_
  rintro e w1 ⟨⟨y, rfl, ho⟩, HB⟩
  clear HG
  have hE : Hid (gooN b = (l.length, at_, 0)) := Lib.hid (by unfold gooN; rw [if_neg hnb.out, hg'.out, hat.out])
  obtain ⟨ay, cy, rfl⟩ := own_slice ho.out
  obtain ⟨L, hL⟩ : ∃ L, l.length = L := ⟨_, rfl⟩
  rw [hL] at hE ho ⊢
  clear hL hl0
  go_wp2_with fail
  exact bodyPost_ret (v := .tuple #[.int .i64 (L : Int), .int .i64 (at_ : Int), .int .i64 0]) (by simp [results, Tryd.results25, go_sem]) rfl ⟨by rw [hE.out], HB⟩

set_option maxRecDepth 100000 in
set_option maxHeartbeats 2000000 in
theorem recover_v (b : List UInt8) (v : Value) (hbl : b.length ≤ 100000 ∨ 1048576 < b.length) (w : World) (he : Env w) (hv : IsB b v w) :
    Calls Tryd.prog 26 #[v] w fun e w' => (∃ y z er, e = .returned (.tuple #[y, z, .int .i64 er]) ∧ Hid (er = recN b) ∧ Hid (w'.ownsRow w.heap.size 5 1 y (recB b).length ((recB b).flatMap encU)) ∧ Hid (w'.ownsRow w.heap.size 24 3 z (recL b).length ((recL b).flatMap encE))) ∧ Below w.heap.size w w' := by
  obtain ⟨a, n, c, rfl, hn0, hnc, hcm⟩ := hv.shape
  have he0 := Lib.hid he
  have hv0 := Lib.hid hv
  by_cases hbig : 1048576 < n
  · have hbig2 : 1048576 < b.length := by omega
    have hE : Hid ((4 : Int) = recN b) := Lib.hid (by unfold recN; rw [if_pos hbig2])
    have hE1 : Hid (recL b = []) := Lib.hid (by unfold recL; rw [if_pos hbig2])
    have hE2 : Hid (recB b = []) := Lib.hid (by unfold recB; rw [if_pos hbig2])
    have hbig' : (decide ((1048576 : Int) < (n : Int))) = true := by simp; omega
    clear hbl hn0 hbig he hv hbig2
    go_enter Tryd.func26, Tryd.ntmps26
    go_wp2_with fail
    exact bodyPost_ret (v := .tuple #[.slice none 0 0, .slice none 0 0, .int .i64 4]) (by simp [results, Tryd.results26, go_sem]) rfl ⟨⟨_, _, _, rfl, hE, by rw [hE2.out]; exact Lib.hid (World.ownsRow_nil _ _ _ _), by rw [hE1.out]; exact Lib.hid (World.ownsRow_nil _ _ _ _)⟩, Below.refl _ _⟩
  have hnb : Hid (¬ 1048576 < b.length) := Lib.hid (by omega)
  have hbig' : (decide ((1048576 : Int) < (n : Int))) = false := by simp; omega
  have HG := Lib.hid (good_v b _ (by omega) w he hv)
  have hbn : Hid (n ≤ 100000) := Lib.hid (by omega)
  obtain ⟨l, t, e, hg, hbt, htk, hdr, hst, hez, hvl⟩ := good_parts b
  have hg' := Lib.hid hg
  rw [hg] at HG
  dsimp only at HG
  obtain ⟨at_, hat⟩ : ∃ at_, (encJ l).length = at_ := ⟨_, rfl⟩
  rw [hat] at HG
  have hatn : at_ ≤ n := by
    have := congrArg List.length hbt
    rw [List.length_append] at this
    omega
  replace hn0 := Lib.hid hn0
  replace hat := Lib.hid hat
  have hl0 : Hid (l.length ≤ 1000) := Lib.hid (by
    unfold logV at hvl
    simp only [Bool.and_eq_true, decide_eq_true_eq] at hvl
    exact hvl.1.1)
  clear hbl hbig he hv hg hbt htk hdr hst hez hvl
  go_enter Tryd.func26, Tryd.ntmps26
  go_wp2_with fail
  refine HG.out.mono ?_
  rintro e w1 ⟨⟨y, rfl, ho⟩, HB⟩
  clear HG
  have hE : Hid ((0 : Int) = recN b) := Lib.hid (by unfold recN; rw [if_neg hnb.out])
  have hE1 : Hid (recL b = l) := Lib.hid (by unfold recL; rw [if_neg hnb.out, hg'.out])
  have hE2 : Hid (recB b = b.take at_) := Lib.hid (by unfold recB; rw [if_neg hnb.out, hg'.out, hat.out])
  obtain ⟨A3, hs3, hB3⟩ := (hv0.out.up HB).hi at_ hatn
  have HC := Lib.hid (cloneB_v (b.take at_) _ (by rw [List.length_take]; have := hbn.out; omega) w1 hB3)
  clear hB3
  go_wp2_with fail
  refine HC.out.mono ?_
  rintro e w2 ⟨⟨cy, cc, rfl, hc⟩, hb2⟩
  obtain ⟨LL, hLL⟩ : ∃ LL, (b.take at_).length = LL := ⟨_, rfl⟩
  have hc2 : Hid (w2.ownsRow w.heap.size 5 1 (.slice cy LL cc) (recB b).length ((recB b).flatMap encU)) := Lib.hid (by
    rw [hE2.out, ← hLL]
    exact own_weak hc.out HB.size)
  have ho2 : Hid (w2.ownsRow w.heap.size 24 3 y (recL b).length ((recL b).flatMap encE)) := Lib.hid (by
    rw [hE1.out]
    exact World.ownsRow_up ho.out hb2)
  replace HB := below_then HB hb2
  rw [hLL]
  clear hb2 HC hs3 hLL hc ho
  go_wp2_with fail
  exact bodyPost_ret (v := .tuple #[.slice cy LL cc, y, .int .i64 0]) (by simp [results, Tryd.results26, go_sem]) rfl ⟨⟨_, _, _, rfl, hE, hc2, ho2⟩, HB⟩

def appE (b : List UInt8) (x : Ent) : Int := if decE b ≠ 0 then decE b else if logV (decL b ++ [x]) = false then 1 else 0
def appB (b : List UInt8) (x : Ent) : List UInt8 := if appE b x = 0 then b ++ recE b x else []
theorem app_isB {w : World} {base rn : Nat} {a : Option Addr} {c : Nat} {b r : List UInt8} (hr : r.length = rn) (h : w.ownsRow base 5 1 (.slice a (b.length + rn) c) (b.length + rn) (b.flatMap encU ++ r.flatMap encU)) : IsB (b ++ r) (.slice a (b.length + rn) c) w := by
  subst hr
  refine row_isB (base := base) ?_
  rw [List.length_append, List.flatMap_append]
  exact h
theorem rec_len2 {p : List UInt8} {x : Ent} (hd : -9223372036854775808 ≤ x.day ∧ x.day ≤ 9223372036854775807) (hk : -9223372036854775808 ≤ x.kind ∧ x.kind ≤ 9223372036854775807) (hn : x.name.size ≤ 10000) : (recE p x).length ≤ 20000 := by
  have e1 := Lib.itoa_length_le x.day hd.1 hd.2
  have e2 := Lib.itoa_length_le x.kind hk.1 hk.2
  have e3 := dec_le10 (sumF_lt (lineE x) (sumB p) (sumB_lt p))
  have e4 : (by_ x.name).length = x.name.size := rfl
  unfold recE lineE
  unfold lineE at e3
  simp only [List.length_append, List.length_cons, List.length_nil]
  omega
theorem decL_len (b : List UInt8) : (decL b).length ≤ 1000 ∧ ∀ x ∈ decL b, x.name.size ≤ 10000 := by
  unfold decL
  split
  · obtain ⟨l, t, e, hg, _, _, _, _, _, hv⟩ := good_parts b
    rw [hg]
    refine ⟨?_, fun x hx => ?_⟩
    · unfold logV at hv
      simp only [Bool.and_eq_true, decide_eq_true_eq] at hv
      exact hv.1.1
    · have := (WordsOk.of (logV_ent hv hx)).bd.2
      omega
  · exact ⟨by simp, by simp⟩
set_option maxRecDepth 100000 in
set_option maxHeartbeats 4000000 in
theorem append_v (b : List UInt8) (v : Value) (hbl : b.length ≤ 100000 ∨ 1048576 < b.length) (xd xk : Int) (xn : ByteArray) (hd : -9223372036854775808 ≤ xd ∧ xd ≤ 9223372036854775807) (hk : -9223372036854775808 ≤ xk ∧ xk ≤ 9223372036854775807) (hn : xn.size ≤ 10000) (w : World) (he : Env w) (hv : IsB b v w) :
    Calls Tryd.prog 12 #[v, .agg #[.int .i64 xd, .int .i64 xk, .string xn]] w fun e w' => (∃ y er, e = .returned (.tuple #[y, .int .i64 er]) ∧ Hid (er = appE b ⟨xd, xk, xn⟩) ∧ Hid (IsB (appB b ⟨xd, xk, xn⟩) y w')) ∧ Below w.heap.size w w' := by
  obtain ⟨i0, hi, hz0, hz1, hz2⟩ := info_parts infoEnt
  obtain ⟨iU, hu, hu0, hu1, hu2⟩ := info_parts infoU8
  obtain ⟨a, n, c, rfl, -, -⟩ := hv.shape
  have he0 := Lib.hid he
  have hv0 := Lib.hid hv
  have hbd := Lib.hid (And.intro hd hk)
  have hnm := Lib.hid hn
  have hbl0 := Lib.hid hbl
  have hrl := Lib.hid (rec_len2 (p := b) (x := ⟨xd, xk, xn⟩) hd hk hn)
  have hdl := Lib.hid (decL_len b)
  have hA : appE b ⟨xd, xk, xn⟩ = if decE b ≠ 0 then decE b else if logV (decL b ++ [⟨xd, xk, xn⟩]) = false then 1 else 0 := rfl
  have hbig : Hid (decE b = 0 → b.length ≤ 100000) := Lib.hid fun h => by
    rcases hbl with q | q
    · exact q
    · unfold decE at h
      rw [if_pos q] at h
      cases h
  have HD := Lib.hid fun u (hb : Below w.heap.size w u) => decode_v b (.slice a n c) (by rcases hbl with q | q; exact .inl (by omega); exact .inr q) u (he.bel hb) (hv.up hb)
  obtain ⟨E, hE0⟩ : ∃ E, decE b = E := ⟨_, rfl⟩
  rw [hE0] at HD hA hbig
  have hBd : appB b ⟨xd, xk, xn⟩ = if appE b ⟨xd, xk, xn⟩ = 0 then b ++ recE b ⟨xd, xk, xn⟩ else [] := rfl
  have hA' := Lib.hid hA
  have hB' := Lib.hid hBd
  clear hbl hd hk hn he hv hE0 hA hBd
  go_enter Tryd.func12, Tryd.ntmps12
  go_wp2_with fail
  generalize hWW : World.alloc _ _ = W1
  have kx : At W1 w.heap.size 24 #[.int .i64 xd, .int .i64 xk, .string xn] := by rw [← hWW]; exact At.new' rfl
  have HB : Below w.heap.size w W1 := by rw [← hWW]; exact below_al (Below.refl _ _) _
  clear hWW
  refine (HD.out _ HB).mono ?_
  rintro e w2 ⟨⟨ly, rfl, ho⟩, hb2⟩
  have hdis : ly.ownBlock ≠ some w.heap.size := fun h => by have := (own_lt ho.out h).2; have := kx.lt; omega
  have ho0 : Hid (w2.ownsRow w.heap.size 24 3 ly (decL b).length ((decL b).flatMap encE)) := Lib.hid (own_weak ho.out HB.size)
  replace kx := At.bel kx hb2
  replace HB := below_then HB hb2
  clear hb2 HD ho
  by_cases hE : E = 0
  rotate_left
  · have h1 : Hid (appE b ⟨xd, xk, xn⟩ = E) := Lib.hid (by rw [hA'.out, if_pos hE])
    have h2 : Hid (appB b ⟨xd, xk, xn⟩ = []) := Lib.hid (by rw [hB'.out, h1.out, if_neg hE])
    have hc : (E != 0) = true := by simpa using hE
    clear hE kx
    go_wp2_with fail
    exact bodyPost_ret (v := .tuple #[.slice none 0 0, .int .i64 E]) (by simp [results, Tryd.results12, go_sem]) rfl ⟨⟨_, _, rfl, Lib.hid h1.out.symm, by rw [h2.out]; exact Lib.hid (IsB.nil _)⟩, HB⟩
  subst hE
  have hbz := Lib.hid (hbig.out rfl)
  obtain ⟨x0, x1, x2⟩ := kx.three
  have hdl1 := Lib.hid hdl.out.1
  generalize hLL : decL b = L at *
  clear hbig
  go_wp2_with (at_builtin; refine wpList_append_own_at _ rfl _ _ 34 rfl w.heap.size 24 i0 (.agg #[.int .i64 0, .int .i64 0, .string ⟨#[]⟩]) 3 32 Tryd.underlying34 hi hz0 hz1 hz2 rfl (by decide) _ _ _ rfl (World.ownsRow.alloc ho0.out _) ⟨w2.heap.size, 0, none⟩ 1 1 [.int .i64 xd, .int .i64 xk, .string xn] rfl rfl (three_new (At.new _ _ _)) (by intro u hu; simp at hu; rcases hu with rfl | rfl | rfl <;> rfl) (by have := hdl1.out; unfold maxLen; omega) (by have := hdl1.out; omega) (by have := HB.size; simp; omega) ?_)
  intro v' w5 ho1 hg1 hnil hloc
  have hg2 : w2.grownBy w5 ly.ownBlock := (World.grownBy_alloc _ _ _).trans hg1
  have HB5 : Below w.heap.size w w5 := HB.grown hg2 (by have := HB.size; omega) (fun j hj => (own_lt ho0.out hj).2)
  have kx5 := at_grown kx hg2 hdis
  have ho2 : Hid (w5.ownsRow w.heap.size 24 3 v' (L ++ [(⟨xd, xk, xn⟩ : Ent)]).length ((L ++ [(⟨xd, xk, xn⟩ : Ent)]).flatMap encE)) := Lib.hid (by
    rw [show (L ++ [(⟨xd, xk, xn⟩ : Ent)]).length = L.length + 1 by simp, List.flatMap_append, List.flatMap_singleton]
    exact ho1)
  have HV := Lib.hid (jvalid_own ho2.out (by have := hdl1.out; simp; omega) (by
    intro y hy
    rcases List.mem_append.1 hy with q | q
    · exact hdl.out.2 y q
    · rw [List.mem_singleton] at q; rw [q]; exact hnm.out))
  obtain ⟨vb, hvb⟩ : ∃ vb, logV (L ++ [(⟨xd, xk, xn⟩ : Ent)]) = vb := ⟨_, rfl⟩
  rw [hvb] at HV hA'
  clear hg1 hg2 hnil hloc ho1 x0 x1 x2 kx HB ho0 hdis hvb
  go_wp2_with fail
  refine HV.out.mono ?_
  rintro e W3 ⟨rfl, hb6⟩
  have HB3 := below_then HB5 hb6
  have kx := At.bel kx5 hb6
  clear hb6 HV HB5 kx5 ho2
  cases vb
  · have h1 : Hid (appE b ⟨xd, xk, xn⟩ = 1) := Lib.hid (by rw [hA'.out, if_neg (not_not_intro rfl), if_pos rfl])
    have h2 : Hid (appB b ⟨xd, xk, xn⟩ = []) := Lib.hid (by rw [hB'.out, h1.out, if_neg (by decide)])
    clear kx
    go_wp2_with fail
    exact bodyPost_ret (v := .tuple #[.slice none 0 0, .int .i64 1]) (by simp [results, Tryd.results12, go_sem]) rfl ⟨⟨_, _, rfl, Lib.hid h1.out.symm, by rw [h2.out]; exact Lib.hid (IsB.nil _)⟩, HB3⟩
  have hE : Hid (appE b ⟨xd, xk, xn⟩ = 0) := Lib.hid (by rw [hA'.out, if_neg (not_not_intro rfl), if_neg (by decide)])
  have hB : Hid (appB b ⟨xd, xk, xn⟩ = b ++ recE b ⟨xd, xk, xn⟩) := Lib.hid (by rw [hB'.out, hE.out, if_pos rfl])
  clear hA' hB'
  obtain ⟨x0, x1, x2⟩ := kx.three
  go_upto_region 6 with fail
  refine wp_region_noPanic ?_
  refine wp_region_held_drew (S := (fun W => Below W3.heap.size W3 W ∧ At W w.heap.size 24 #[.int .i64 xd, .int .i64 xk, .string xn] ∧ W.cell? ⟨w.heap.size, 0, none⟩ = some (.int .i64 xd) ∧ W.cell? ⟨w.heap.size, 1, none⟩ = some (.int .i64 xk) ∧ W.cell? ⟨w.heap.size, 2, none⟩ = some (.string xn))) (by kernel_rfl) ?_ (fun hHeld => ?_)
  · (try dsimp only); (first | ((try go_split_ands); refine ⟨?_, ?_, ?_, ?_, ?_⟩; (focus ((repeat (first | with_reducible assumption | with_reducible exact Below.refl _ _ | with_reducible refine below_al ?_ _ | with_reducible refine below_drew ?_ | with_reducible refine below_drewN ?_ _ | with_reducible refine below_then ?_ hb6)); done)); (focus ((repeat (first | with_reducible assumption | with_reducible apply At.drw | with_reducible refine At.al ?_ _ | with_reducible refine At.bel ?_ hb6)); done)); (focus (first | (with_reducible refine At.c0' (t := 24) (x := .int .i64 xd) (y := .int .i64 xk) (z := .string xn) ?_; (repeat (first | with_reducible assumption | with_reducible apply At.drw | with_reducible refine At.al ?_ _ | with_reducible refine At.bel ?_ hb6)); done) | (with_reducible refine At.c1' (t := 24) (x := .int .i64 xd) (y := .int .i64 xk) (z := .string xn) ?_; (repeat (first | with_reducible assumption | with_reducible apply At.drw | with_reducible refine At.al ?_ _ | with_reducible refine At.bel ?_ hb6)); done) | (with_reducible refine At.c2' (t := 24) (x := .int .i64 xd) (y := .int .i64 xk) (z := .string xn) ?_; (repeat (first | with_reducible assumption | with_reducible apply At.drw | with_reducible refine At.al ?_ _ | with_reducible refine At.bel ?_ hb6)); done) )); (focus (first | (with_reducible refine At.c0' (t := 24) (x := .int .i64 xd) (y := .int .i64 xk) (z := .string xn) ?_; (repeat (first | with_reducible assumption | with_reducible apply At.drw | with_reducible refine At.al ?_ _ | with_reducible refine At.bel ?_ hb6)); done) | (with_reducible refine At.c1' (t := 24) (x := .int .i64 xd) (y := .int .i64 xk) (z := .string xn) ?_; (repeat (first | with_reducible assumption | with_reducible apply At.drw | with_reducible refine At.al ?_ _ | with_reducible refine At.bel ?_ hb6)); done) | (with_reducible refine At.c2' (t := 24) (x := .int .i64 xd) (y := .int .i64 xk) (z := .string xn) ?_; (repeat (first | with_reducible assumption | with_reducible apply At.drw | with_reducible refine At.al ?_ _ | with_reducible refine At.bel ?_ hb6)); done) )); (focus (first | (with_reducible refine At.c0' (t := 24) (x := .int .i64 xd) (y := .int .i64 xk) (z := .string xn) ?_; (repeat (first | with_reducible assumption | with_reducible apply At.drw | with_reducible refine At.al ?_ _ | with_reducible refine At.bel ?_ hb6)); done) | (with_reducible refine At.c1' (t := 24) (x := .int .i64 xd) (y := .int .i64 xk) (z := .string xn) ?_; (repeat (first | with_reducible assumption | with_reducible apply At.drw | with_reducible refine At.al ?_ _ | with_reducible refine At.bel ?_ hb6)); done) | (with_reducible refine At.c2' (t := 24) (x := .int .i64 xd) (y := .int .i64 xk) (z := .string xn) ?_; (repeat (first | with_reducible assumption | with_reducible apply At.drw | with_reducible refine At.al ?_ _ | with_reducible refine At.bel ?_ hb6)); done) ))) | go_keep)
  refine wpAnyH_take (i := 0) (v := ?_) (by simp only [List.getElem?_toArray, List.getElem?_cons_zero]; rfl) (by kernel_rfl) (by kernel_rfl) (by kernel_rfl) (fun _ _ _ h => h) (Or.inl ⟨by rfl, ?_⟩) (by assumption) ?_
  rotate_left
  focus (intro w hSw; (try dsimp only at hSw); go_simp; first | done | with_reducible rfl)
  (try simp only [Act.put, List.setIfInBounds_toArray, List.set_cons_zero, List.set_cons_succ])
  refine wpAnyH_take (i := 2) (v := ?_) (by simp only [List.getElem?_toArray, List.getElem?_cons_succ, List.getElem?_cons_zero]; rfl) (by kernel_rfl) (by kernel_rfl) (by kernel_rfl) (fun _ _ _ h => h) (Or.inl ⟨by rfl, ?_⟩) (by assumption) ?_
  rotate_left
  focus (intro w hSw; (try dsimp only at hSw); go_simp; first | done | with_reducible rfl)
  (try simp only [Act.put, List.setIfInBounds_toArray, List.set_cons_zero, List.set_cons_succ])
  refine wpAnyH_take (i := 3) (v := ?_) (by simp only [List.getElem?_toArray, List.getElem?_cons_succ, List.getElem?_cons_zero]; rfl) (by kernel_rfl) (by kernel_rfl) (by kernel_rfl) (fun _ _ _ h => h) (Or.inl ⟨by rfl, ?_⟩) (by assumption) ?_
  rotate_left
  focus (intro w hSw; (try dsimp only at hSw); go_simp; first | done | with_reducible rfl)
  (try simp only [Act.put, List.setIfInBounds_toArray, List.set_cons_zero, List.set_cons_succ])
  refine wpAnyH_ready (rs := [1]) (by kernel_rfl) (by simp) ?_
  refine AllReadyH.cons (i := 1) (by simp only [List.getElem?_toArray, List.getElem?_cons_succ, List.getElem?_cons_zero]; rfl) (fun K hK => ?_) ?_
  · go_simp
    (go_at_call 30; refine (cloneB_v b _ hbz.out _ (hv0.out.up (below_then HB3 (by go_split_ands; repeat (first | with_reducible assumption | with_reducible exact Below.refl _ _ | with_reducible refine below_al ?_ _ | with_reducible refine below_drew ?_ | with_reducible refine below_drewN ?_ _ | with_reducible refine below_then ?_ hb6))))).mono ?_; rintro e w8 ⟨⟨cy, cc, rfl, hcl0⟩, hb6⟩; have hcl := Lib.hid (own_weak (base' := W3.heap.size) hcl0.out (Below.size (B := W3.heap.size) (w := W3) (by go_split_ands; repeat (first | with_reducible assumption | with_reducible exact Below.refl _ _ | with_reducible refine below_al ?_ _ | with_reducible refine below_drew ?_ | with_reducible refine below_drewN ?_ _ | with_reducible refine below_then ?_ hb6)))))
    (try go_wp2_with fail)
    refine hK.out _ _ ?_ (fun hHeld => ?_)
    · (try dsimp only); (first | ((try go_split_ands); refine ⟨?_, ?_, ?_, ?_, ?_⟩; (focus ((repeat (first | with_reducible assumption | with_reducible exact Below.refl _ _ | with_reducible refine below_al ?_ _ | with_reducible refine below_drew ?_ | with_reducible refine below_drewN ?_ _ | with_reducible refine below_then ?_ hb6)); done)); (focus ((repeat (first | with_reducible assumption | with_reducible apply At.drw | with_reducible refine At.al ?_ _ | with_reducible refine At.bel ?_ hb6)); done)); (focus (first | (with_reducible refine At.c0' (t := 24) (x := .int .i64 xd) (y := .int .i64 xk) (z := .string xn) ?_; (repeat (first | with_reducible assumption | with_reducible apply At.drw | with_reducible refine At.al ?_ _ | with_reducible refine At.bel ?_ hb6)); done) | (with_reducible refine At.c1' (t := 24) (x := .int .i64 xd) (y := .int .i64 xk) (z := .string xn) ?_; (repeat (first | with_reducible assumption | with_reducible apply At.drw | with_reducible refine At.al ?_ _ | with_reducible refine At.bel ?_ hb6)); done) | (with_reducible refine At.c2' (t := 24) (x := .int .i64 xd) (y := .int .i64 xk) (z := .string xn) ?_; (repeat (first | with_reducible assumption | with_reducible apply At.drw | with_reducible refine At.al ?_ _ | with_reducible refine At.bel ?_ hb6)); done) )); (focus (first | (with_reducible refine At.c0' (t := 24) (x := .int .i64 xd) (y := .int .i64 xk) (z := .string xn) ?_; (repeat (first | with_reducible assumption | with_reducible apply At.drw | with_reducible refine At.al ?_ _ | with_reducible refine At.bel ?_ hb6)); done) | (with_reducible refine At.c1' (t := 24) (x := .int .i64 xd) (y := .int .i64 xk) (z := .string xn) ?_; (repeat (first | with_reducible assumption | with_reducible apply At.drw | with_reducible refine At.al ?_ _ | with_reducible refine At.bel ?_ hb6)); done) | (with_reducible refine At.c2' (t := 24) (x := .int .i64 xd) (y := .int .i64 xk) (z := .string xn) ?_; (repeat (first | with_reducible assumption | with_reducible apply At.drw | with_reducible refine At.al ?_ _ | with_reducible refine At.bel ?_ hb6)); done) )); (focus (first | (with_reducible refine At.c0' (t := 24) (x := .int .i64 xd) (y := .int .i64 xk) (z := .string xn) ?_; (repeat (first | with_reducible assumption | with_reducible apply At.drw | with_reducible refine At.al ?_ _ | with_reducible refine At.bel ?_ hb6)); done) | (with_reducible refine At.c1' (t := 24) (x := .int .i64 xd) (y := .int .i64 xk) (z := .string xn) ?_; (repeat (first | with_reducible assumption | with_reducible apply At.drw | with_reducible refine At.al ?_ _ | with_reducible refine At.bel ?_ hb6)); done) | (with_reducible refine At.c2' (t := 24) (x := .int .i64 xd) (y := .int .i64 xk) (z := .string xn) ?_; (repeat (first | with_reducible assumption | with_reducible apply At.drw | with_reducible refine At.al ?_ _ | with_reducible refine At.bel ?_ hb6)); done) ))) | go_keep)
    clear hK K
    (try simp only [Act.put, List.setIfInBounds_toArray, List.set_cons_zero, List.set_cons_succ])
    refine wpAnyH_ready (rs := [4]) (by kernel_rfl) (by simp) ?_
    refine AllReadyH.cons (i := 4) (by simp only [List.getElem?_toArray, List.getElem?_cons_succ, List.getElem?_cons_zero]; rfl) (fun K hK => ?_) ?_
    · go_simp
      (go_at_call 32; refine (record_v b _ xd xk xn hbd.out.1 hbd.out.2 hnm.out _ (he0.out.bel (below_then HB3 (by go_split_ands; repeat (first | with_reducible assumption | with_reducible exact Below.refl _ _ | with_reducible refine below_al ?_ _ | with_reducible refine below_drew ?_ | with_reducible refine below_drewN ?_ _ | with_reducible refine below_then ?_ hb6)))).tab (hv0.out.up (below_then HB3 (by go_split_ands; repeat (first | with_reducible assumption | with_reducible exact Below.refl _ _ | with_reducible refine below_al ?_ _ | with_reducible refine below_drew ?_ | with_reducible refine below_drewN ?_ _ | with_reducible refine below_then ?_ hb6))))).mono ?_; rintro e w9 ⟨⟨y, rfl, hy⟩, hb6⟩; replace hcl := Lib.hid (World.ownsRow_up hcl.out hb6); obtain ⟨rb, ro, rc, rfl, r1, r2, r3⟩ := hy.out.src (rec_pos _ _); obtain ⟨rn, hrn⟩ : ∃ rn, (recE b ⟨xd, xk, xn⟩).length = rn := ⟨_, rfl⟩; rw [hrn]; rw [hrn] at r1; replace r1 := Lib.hid r1; replace r2 := Lib.hid r2; replace r3 := Lib.hid r3; have hrz : Hid (rn ≤ 20000) := Lib.hid (by rw [← hrn]; exact hrl.out); replace hrn := Lib.hid hrn)
      (try go_wp2_with fail)
      refine hK.out _ _ ?_ (fun hHeld => ?_)
      · (try dsimp only); (first | ((try go_split_ands); refine ⟨?_, ?_, ?_, ?_, ?_⟩; (focus ((repeat (first | with_reducible assumption | with_reducible exact Below.refl _ _ | with_reducible refine below_al ?_ _ | with_reducible refine below_drew ?_ | with_reducible refine below_drewN ?_ _ | with_reducible refine below_then ?_ hb6)); done)); (focus ((repeat (first | with_reducible assumption | with_reducible apply At.drw | with_reducible refine At.al ?_ _ | with_reducible refine At.bel ?_ hb6)); done)); (focus (first | (with_reducible refine At.c0' (t := 24) (x := .int .i64 xd) (y := .int .i64 xk) (z := .string xn) ?_; (repeat (first | with_reducible assumption | with_reducible apply At.drw | with_reducible refine At.al ?_ _ | with_reducible refine At.bel ?_ hb6)); done) | (with_reducible refine At.c1' (t := 24) (x := .int .i64 xd) (y := .int .i64 xk) (z := .string xn) ?_; (repeat (first | with_reducible assumption | with_reducible apply At.drw | with_reducible refine At.al ?_ _ | with_reducible refine At.bel ?_ hb6)); done) | (with_reducible refine At.c2' (t := 24) (x := .int .i64 xd) (y := .int .i64 xk) (z := .string xn) ?_; (repeat (first | with_reducible assumption | with_reducible apply At.drw | with_reducible refine At.al ?_ _ | with_reducible refine At.bel ?_ hb6)); done) )); (focus (first | (with_reducible refine At.c0' (t := 24) (x := .int .i64 xd) (y := .int .i64 xk) (z := .string xn) ?_; (repeat (first | with_reducible assumption | with_reducible apply At.drw | with_reducible refine At.al ?_ _ | with_reducible refine At.bel ?_ hb6)); done) | (with_reducible refine At.c1' (t := 24) (x := .int .i64 xd) (y := .int .i64 xk) (z := .string xn) ?_; (repeat (first | with_reducible assumption | with_reducible apply At.drw | with_reducible refine At.al ?_ _ | with_reducible refine At.bel ?_ hb6)); done) | (with_reducible refine At.c2' (t := 24) (x := .int .i64 xd) (y := .int .i64 xk) (z := .string xn) ?_; (repeat (first | with_reducible assumption | with_reducible apply At.drw | with_reducible refine At.al ?_ _ | with_reducible refine At.bel ?_ hb6)); done) )); (focus (first | (with_reducible refine At.c0' (t := 24) (x := .int .i64 xd) (y := .int .i64 xk) (z := .string xn) ?_; (repeat (first | with_reducible assumption | with_reducible apply At.drw | with_reducible refine At.al ?_ _ | with_reducible refine At.bel ?_ hb6)); done) | (with_reducible refine At.c1' (t := 24) (x := .int .i64 xd) (y := .int .i64 xk) (z := .string xn) ?_; (repeat (first | with_reducible assumption | with_reducible apply At.drw | with_reducible refine At.al ?_ _ | with_reducible refine At.bel ?_ hb6)); done) | (with_reducible refine At.c2' (t := 24) (x := .int .i64 xd) (y := .int .i64 xk) (z := .string xn) ?_; (repeat (first | with_reducible assumption | with_reducible apply At.drw | with_reducible refine At.al ?_ _ | with_reducible refine At.bel ?_ hb6)); done) ))) | go_keep)
      clear hK K
      (try simp only [Act.put, List.setIfInBounds_toArray, List.set_cons_zero, List.set_cons_succ])
      refine wpAnyH_ready (rs := [5]) (by kernel_rfl) (by simp) ?_
      refine AllReadyH.cons (i := 5) (by simp only [List.getElem?_toArray, List.getElem?_cons_succ, List.getElem?_cons_zero]; rfl) (fun K hK => ?_) ?_
      · (refine step_append_w _ rfl (.tmp 25) (.tmp 28) 22 rfl W3.heap.size 5 iU (.int .u8 0) 1 1 Tryd.underlying22 hu hu0 hu1 hu2 rfl (by decide) (.slice cy b.length cc) b.length (b.flatMap encU) (by first | rfl | (simp [Act.eval]; done)) hcl.out ⟨rb, ro, none⟩ rn rc ((recE b ⟨xd, xk, xn⟩).flatMap encU) (by first | rfl | (simp [Act.eval]; done)) r1.out r2.out r3.out (by have := hbz.out; have := hrz.out; unfold maxLen; omega) (by have := hbz.out; have := hrz.out; omega) (Below.size (B := W3.heap.size) (w := W3) (by go_split_ands; repeat (first | with_reducible assumption | with_reducible exact Below.refl _ _ | with_reducible refine below_al ?_ _ | with_reducible refine below_drew ?_ | with_reducible refine below_drewN ?_ _ | with_reducible refine below_then ?_ hb6))) ?_; intro a5 c5 w10 ho9 hg9 hloc9; have hB9 : Below W3.heap.size W3 w10 := below_grown (by go_split_ands; repeat (first | with_reducible assumption | with_reducible exact Below.refl _ _ | with_reducible refine below_al ?_ _ | with_reducible refine below_drew ?_ | with_reducible refine below_drewN ?_ _ | with_reducible refine below_then ?_ hb6)) hg9 (fun j hj => (own_lt hcl.out hj).2); have kx9 : At w10 w.heap.size 24 #[.int .i64 xd, .int .i64 xk, .string xn] := At.bel kx hB9; have hfin : Hid (IsB (b ++ recE b ⟨xd, xk, xn⟩) (.slice a5 (b.length + rn) c5) w10) := Lib.hid (app_isB hrn.out ho9); clear ho9 hg9 hloc9)
        refine hK.out _ _ ?_ (fun hHeld => ?_)
        · (try dsimp only); (first | ((try go_split_ands); refine ⟨?_, ?_, ?_, ?_, ?_⟩; (focus ((repeat (first | with_reducible assumption | with_reducible exact Below.refl _ _ | with_reducible refine below_al ?_ _ | with_reducible refine below_drew ?_ | with_reducible refine below_drewN ?_ _ | with_reducible refine below_then ?_ hb6)); done)); (focus ((repeat (first | with_reducible assumption | with_reducible apply At.drw | with_reducible refine At.al ?_ _ | with_reducible refine At.bel ?_ hb6)); done)); (focus (first | (with_reducible refine At.c0' (t := 24) (x := .int .i64 xd) (y := .int .i64 xk) (z := .string xn) ?_; (repeat (first | with_reducible assumption | with_reducible apply At.drw | with_reducible refine At.al ?_ _ | with_reducible refine At.bel ?_ hb6)); done) | (with_reducible refine At.c1' (t := 24) (x := .int .i64 xd) (y := .int .i64 xk) (z := .string xn) ?_; (repeat (first | with_reducible assumption | with_reducible apply At.drw | with_reducible refine At.al ?_ _ | with_reducible refine At.bel ?_ hb6)); done) | (with_reducible refine At.c2' (t := 24) (x := .int .i64 xd) (y := .int .i64 xk) (z := .string xn) ?_; (repeat (first | with_reducible assumption | with_reducible apply At.drw | with_reducible refine At.al ?_ _ | with_reducible refine At.bel ?_ hb6)); done) )); (focus (first | (with_reducible refine At.c0' (t := 24) (x := .int .i64 xd) (y := .int .i64 xk) (z := .string xn) ?_; (repeat (first | with_reducible assumption | with_reducible apply At.drw | with_reducible refine At.al ?_ _ | with_reducible refine At.bel ?_ hb6)); done) | (with_reducible refine At.c1' (t := 24) (x := .int .i64 xd) (y := .int .i64 xk) (z := .string xn) ?_; (repeat (first | with_reducible assumption | with_reducible apply At.drw | with_reducible refine At.al ?_ _ | with_reducible refine At.bel ?_ hb6)); done) | (with_reducible refine At.c2' (t := 24) (x := .int .i64 xd) (y := .int .i64 xk) (z := .string xn) ?_; (repeat (first | with_reducible assumption | with_reducible apply At.drw | with_reducible refine At.al ?_ _ | with_reducible refine At.bel ?_ hb6)); done) )); (focus (first | (with_reducible refine At.c0' (t := 24) (x := .int .i64 xd) (y := .int .i64 xk) (z := .string xn) ?_; (repeat (first | with_reducible assumption | with_reducible apply At.drw | with_reducible refine At.al ?_ _ | with_reducible refine At.bel ?_ hb6)); done) | (with_reducible refine At.c1' (t := 24) (x := .int .i64 xd) (y := .int .i64 xk) (z := .string xn) ?_; (repeat (first | with_reducible assumption | with_reducible apply At.drw | with_reducible refine At.al ?_ _ | with_reducible refine At.bel ?_ hb6)); done) | (with_reducible refine At.c2' (t := 24) (x := .int .i64 xd) (y := .int .i64 xk) (z := .string xn) ?_; (repeat (first | with_reducible assumption | with_reducible apply At.drw | with_reducible refine At.al ?_ _ | with_reducible refine At.bel ?_ hb6)); done) ))) | go_keep)
        clear hK K
        (try simp only [Act.put, List.setIfInBounds_toArray, List.set_cons_zero, List.set_cons_succ])
        refine wpAnyH_take (i := 6) (v := ?_) (by simp only [List.getElem?_toArray, List.getElem?_cons_succ, List.getElem?_cons_zero]; rfl) (by kernel_rfl) (by kernel_rfl) (by kernel_rfl) (fun _ _ _ h => h) (Or.inl ⟨by rfl, ?_⟩) (by assumption) ?_
        rotate_left
        focus (intro w hSw; (try dsimp only at hSw); go_simp; first | done | with_reducible rfl)
        (try simp only [Act.put, List.setIfInBounds_toArray, List.set_cons_zero, List.set_cons_succ])
        refine wpAnyH_take (i := 7) (v := ?_) (by simp only [List.getElem?_toArray, List.getElem?_cons_succ, List.getElem?_cons_zero]; rfl) (by kernel_rfl) (by kernel_rfl) (by kernel_rfl) (fun _ _ _ h => h) (Or.inl ⟨by rfl, ?_⟩) (by assumption) ?_
        rotate_left
        focus (intro w hSw; (try dsimp only at hSw); go_simp; first | done | with_reducible rfl)
        (try simp only [Act.put, List.setIfInBounds_toArray, List.set_cons_zero, List.set_cons_succ])
        refine wpAnyH_done (by kernel_rfl) ?_ _
        refine NoPanic.normal ?_
        go_wp2_with fail
        exact bodyPost_ret (v := .tuple #[.slice a5 (b.length + rn) c5, .int .i64 0]) (by simp [results, Tryd.results12, go_sem]) rfl ⟨⟨_, _, rfl, Lib.hid hE.out.symm, by rw [hB.out]; exact hfin⟩, below_then HB3 hB9⟩
      exact AllReadyH.nil
    exact AllReadyH.nil
  exact AllReadyH.nil

end Go.Proofs.YtdcfpopbnkafaaaDoor
