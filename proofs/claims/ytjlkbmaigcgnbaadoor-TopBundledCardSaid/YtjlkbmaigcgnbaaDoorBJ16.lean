/- bend.Cut, bundle.one; schedule: index, valid schedules. Plain: digits, decimal texts, and where a byte stands first. Plain: journals: sums, records, the good records of some bytes. journal: slices of bytes; sums, and where the first line ends (the reference's). journal: slices of bytes as values; slices of them; conversions; sums by value. Bytes set; a byte changed; calls in worlds that have grown. -/
import Derived.Test.YtjlkbmaigcgnbaaDoorBJ15
import Derived.Test.YtjlkbmaigcgnbaaDoorBJ04
import Derived.Test.YtjlkbmaigcgnbaaDoorBJ00
import Derived.Lib.AtoiAll
import Derived.Lib.AtoiTie
import Derived.Lib.Bytealg
import Derived.Lib.LaidTab
import Derived.Lib.ItoaMem
import Derived.Lib.ItoaLen
import Derived.Test.YtjlkbmaigcgnbaaDoorBJ07
import Derived.Laws.IdiomStrings
import Derived.Laws.BytesArg
import Derived.Test.YtjlkbmaigcgnbaaDoorBJ05
import Derived.Laws.BitsAllLaws
set_option linter.unusedVariables false
namespace Go.Proofs.YtjlkbmaigcgnbaaDoor
open Go.ChangeShapes Go.WideShapes Go.ChangeAt Go.RowKit
set_option maxRecDepth 100000 in
set_option maxHeartbeats 1000000 in
theorem cut_any (b : Br) (v : Value) (w : World) (hm : b.mark.size ≤ 1000000) (hv : IsI b.dims v w) (hok : barV b = true) : Calls Tryd.prog 39 #[.agg (barC b v)] w fun e w' => e = .returned (.tuple #[.int .i64 (cutL b), .int .i64 0]) ∧ Below w.heap.size w w' := by
  have HV := Lib.hid (fun W (hW : Below w.heap.size w W) => dev_any b v W hm (hv.up hW) hok)
  have hb := dev_le (barV_legs hok)
  obtain ⟨C, hC⟩ : ∃ C, cutL b = C := ⟨_, rfl⟩
  rw [hC]
  unfold cutL at hC
  generalize devHi b = H at *
  generalize devLo b = L at *
  obtain ⟨M, hM⟩ : ∃ M, max 0 H = M := ⟨_, rfl⟩
  rw [hM] at hC
  have bM : 0 ≤ M ∧ M ≤ 524288000 := by omega
  obtain ⟨Q, hQ⟩ : ∃ Q, (M + 4999) / 5000 = Q := ⟨_, rfl⟩
  rw [hQ] at hC
  have HU := Lib.hid (fun w => up_any M 5000 (by omega) (by decide) w)
  rw [show M + 5000 - 1 = M + 4999 by omega, hQ] at HU
  obtain ⟨P, hP⟩ : ∃ P, 5 * Q = P := ⟨_, rfl⟩
  rw [hP] at hC
  have u1 : IntKind.i64.wrap (5 * Q) = P := by rw [hP, IntWalk.i64_in _ (by omega)]
  clear hQ hP bM hb
  unfold barC at *
  unfold spC at *
  obtain ⟨mk, sz, ct, c, l⟩ := b
  dsimp only at *
  obtain ⟨a, cc, rfl, -, -, -⟩ := hv
  generalize l.length = n0 at *
  clear hok
  go_enter Tryd.func39, Tryd.ntmps39
  go_wp2_with fail
  generalize hWW : World.alloc w _ = WW
  have kx : At WW w.heap.size 50 #[.string mk, .int .i64 sz, .int .i64 ct, .int .i64 c, .slice a n0 cc] := by rw [← hWW]; exact At.new' rfl
  have HB : Below w.heap.size w WW := by rw [← hWW]; exact below_al (Below.refl _ _) _
  clear hWW
  refine (HV.out _ HB).mono ?_
  rintro e w1 ⟨rfl, hb⟩
  replace HB := below_then HB hb
  clear hb HV kx
  go_wp2_with fail
  generalize hWW : World.alloc _ _ = W5
  have ky : At W5 w1.heap.size 106 #[.int .i64 L, .int .i64 H] := by rw [← hWW]; exact At.new' rfl
  have hbW : Below w1.heap.size w1 W5 := by rw [← hWW]; exact below_al (Below.refl _ _) _
  replace HB := below_then HB hbW
  have y1 : W5.cell? ⟨w1.heap.size, 1, none⟩ = some (.int .i64 H) := ky.c 1
  clear hWW hbW ky
  refine (HU.out _).mono ?_
  rintro e w4 ⟨rfl, hb⟩
  replace HB := below_then HB hb
  clear hb HU y1
  go_wp2_with fail
  exact bodyPost_ret (v := .tuple #[.int .i64 C, .int .i64 0]) (by simp [results, Tryd.results39, go_sem, *]) rfl ⟨rfl, HB⟩
set_option maxRecDepth 100000 in
set_option maxHeartbeats 1000000 in
theorem one_any (b : Br) (v : Value) (w : World) (hm : b.mark.size ≤ 1000000) (hv : IsI b.dims v w) (hok : barV b = true) : Calls Tryd.prog 22 #[.agg (barC b v)] w fun e w' => e = .returned (.int .i64 (massB b)) ∧ Below w.heap.size w w' := by
  have HV := Lib.hid (fun W (hW : Below w.heap.size w W) => cut_any b v W hm (hv.up hW) hok)
  have hL := barV_legs hok
  have hb := cut_le hL
  have HM := Lib.hid (fun w => mass_any b.size (cutL b) hL.size (by omega) w)
  unfold massB
  generalize cutL b = C at *
  unfold barC at *
  obtain ⟨mk, sz, ct, c, l⟩ := b
  dsimp only at *
  obtain ⟨a, cc, rfl, -, -, -⟩ := hv
  generalize l.length = n0 at *
  generalize massOf sz C = M at *
  clear hok hL hb
  go_enter Tryd.func22, Tryd.ntmps22
  go_wp2_with fail
  generalize hWW : World.alloc w _ = WW
  have kx : At WW w.heap.size 50 #[.string mk, .int .i64 sz, .int .i64 ct, .int .i64 c, .slice a n0 cc] := by rw [← hWW]; exact At.new' rfl
  have HB : Below w.heap.size w WW := by rw [← hWW]; exact below_al (Below.refl _ _) _
  clear hWW
  refine (HV.out _ HB).mono ?_
  rintro e w1 ⟨rfl, hb⟩
  replace HB := below_then HB hb
  replace kx := kx.bel hb
  have x1 : w1.cell? ⟨w.heap.size, 1, none⟩ = some (.int .i64 sz) := kx.c 1
  clear hb HV kx
  go_wp2_with fail
  refine (HM.out _).mono ?_
  rintro e w4 ⟨rfl, hb⟩
  replace HB := below_then HB hb
  clear hb HM x1
  go_wp2_with fail
  go_ret
  exact ⟨rfl, HB⟩
def encQ (x : Br × Value) : List Value := [.string x.1.mark, .int .i64 x.1.size, .int .i64 x.1.count, .int .i64 x.1.code, x.2]
theorem encQ_len (x : Br × Value) : (encQ x).length = 5 := rfl
structure BarsV (w : World) (l : List Br) (ds : List Value) (a : Option Addr) (c : Nat) : Prop where
  cap : l.length ≤ c
  cap2 : c ≤ 9223372036854775807
  row : RowAt encQ 5 w.heap.size w a (l.zip ds)
  n : ds.length = l.length
  dims : ∀ (k : Nat) (h1 : k < l.length) (h2 : k < ds.length), IsI l[k].dims ds[k] w
  nm : ∀ b ∈ l, b.mark.size ≤ 1000000
theorem BarsV.up {w w' : World} {l : List Br} {ds : List Value} {a : Option Addr} {c : Nat} (h : BarsV w l ds a c) (hb : Below w.heap.size w w') : BarsV w' l ds a c :=
  ⟨h.cap, h.cap2, (h.row.bel (Nat.le_refl _) hb).mono hb.size, h.n, fun k h1 h2 => (h.dims k h1 h2).up hb, h.nm⟩
theorem BarsV.zlen {w : World} {l : List Br} {ds : List Value} {a : Option Addr} {c : Nat} (h : BarsV w l ds a c) : (l.zip ds).length = l.length := by
  rw [List.length_zip, h.n, Nat.min_self]
theorem BarsV.zat {w : World} {l : List Br} {ds : List Value} {a : Option Addr} {c : Nat} (h : BarsV w l ds a c) {x : Br × Value} (hx : x ∈ l.zip ds) : x.1 ∈ l ∧ IsI x.1.dims x.2 w := by
  obtain ⟨k, hk, rfl⟩ := List.getElem_of_mem hx
  rw [h.zlen] at hk
  have h2 : k < ds.length := by rw [h.n]; exact hk
  rw [List.getElem_zip]
  exact ⟨List.getElem_mem hk, h.dims k hk h2⟩
theorem fxI_ix {w : World} {l : List Br} {ds : List Value} {a : Option Addr} {c : Nat} (h : BarsV w l ds a c) (s : ByteArray) : fxI (fun x : Br × Value => decide (x.1.mark = s)) (l.zip ds) = ixI (l.map (·.mark)) s := by
  have e : (l.zip ds).map (fun x : Br × Value => x.1.mark) = l.map (·.mark) := by
    have h1 : (l.zip ds).map Prod.fst = l := List.map_fst_zip (by rw [h.n]; exact Nat.le_refl _)
    calc (l.zip ds).map (fun x : Br × Value => x.1.mark) = ((l.zip ds).map Prod.fst).map (·.mark) := by rw [List.map_map]; rfl
      _ = _ := by rw [h1]
  unfold fxI ixI ix
  rw [← e, List.findIdx_map, List.length_map]
  rfl
theorem RowAt.bar {B : Nat} {w : World} {ao : Option Addr} {l : List (Br × Value)} (h : RowAt encQ 5 B w ao l) (k : Nat) (hk : k < l.length) : ∃ b off, ao = some ⟨b, off, none⟩ ∧ w.cell? ⟨b, off + k * 5, none⟩ = some (.string l[k].1.mark) ∧ w.cell? ⟨b, off + k * 5 + 1, none⟩ = some (.int .i64 l[k].1.size) ∧ w.cell? ⟨b, off + k * 5 + 2, none⟩ = some (.int .i64 l[k].1.count) ∧ w.cell? ⟨b, off + k * 5 + 3, none⟩ = some (.int .i64 l[k].1.code) ∧ w.cell? ⟨b, off + k * 5 + 4, none⟩ = some l[k].2 := by
  obtain ⟨b, off, e, hlt, hc⟩ := h k hk
  exact ⟨b, off, e, hc 0 _ rfl, hc 1 _ rfl, hc 2 _ rfl, hc 3 _ rfl, hc 4 _ rfl⟩
set_option maxRecDepth 100000 in
set_option maxHeartbeats 1000000 in
theorem sindexF_any (x : Br × Value) (s : ByteArray) (X : Nat) (w : World) (kx : At w X 9 #[.string s]) : Calls Tryd.prog 60 #[.agg (encQ x).toArray, .pointer (some ⟨X, 0, none⟩)] w fun e w' => e = .returned (.bool (decide (x.1.mark = s))) ∧ Below w.heap.size w w' := by
  obtain ⟨⟨mk, sz, ct, c, l⟩, v⟩ := x
  unfold encQ
  dsimp only
  have x0 : w.cell? ⟨X, 0, none⟩ = some (.string s) := kx.c 0
  have hX : X < w.heap.size := kx.lt
  have es : (mk.toList == s.toList) = decide (mk = s) := by
    by_cases h : mk = s
    · rw [str_eq h, decide_eq_true h]
    · rw [str_ne h, decide_eq_false h]
  generalize decide (mk = s) = R at *
  go_enter Tryd.func60, Tryd.ntmps60
  go_wp2_with fail
  go_ret
  exact ⟨rfl, below_al (Below.refl _ _) _⟩
set_option maxRecDepth 100000 in
set_option maxHeartbeats 1000000 in
theorem sindex_any (l : List Br) (ds : List Value) (a : Option Addr) (cc : Nat) (s : ByteArray) (w : World) (h : BarsV w l ds a cc) : Calls Tryd.prog 37 #[.slice a l.length cc, .string s] w fun e w' => e = .returned (.int .i64 (ixI (l.map (·.mark)) s)) ∧ Below w.heap.size w w' := by
  have hR := fxI_ix h s
  obtain ⟨R, hR2⟩ : ∃ R, ixI (l.map (·.mark)) s = R := ⟨_, rfl⟩
  rw [hR2] at hR ⊢
  have HI := Lib.hid (fun (W : World) (X : Nat) (hW : Below w.heap.size w W) (kx : At W X 9 #[.string s]) => idxBar encQ encQ_len (l.zip ds) a cc (by rw [h.zlen]; exact h.cap) h.cap2 _ W (Nat.le_refl _) (Lib.hid (h.up hW).row) 60 (.pointer (some ⟨X, 0, none⟩)) (fun args w => by simp [go_sem]) (fun x => decide (x.1.mark = s)) (Lib.hid fun x hx W' hW' => sindexF_any x s X W' (kx.bel hW')))
  rw [h.zlen, hR] at HI
  clear hR hR2 h
  generalize l.length = n at *
  go_enter Tryd.func37, Tryd.ntmps37
  go_wp2_with fail
  generalize hWW : World.alloc w _ = WW
  have kx : At WW w.heap.size 9 #[.string s] := by rw [← hWW]; exact At.new' rfl
  have HB : Below w.heap.size w WW := by rw [← hWW]; exact below_al (Below.refl _ _) _
  clear hWW
  refine (HI.out _ _ HB kx).mono ?_
  rintro e w1 ⟨rfl, hb⟩
  replace HB := below_then HB hb
  clear hb HI kx
  go_wp2_with fail
  go_ret
  exact ⟨rfl, HB⟩
theorem allB_not {p : Br → Bool} {l : List Br} {k : Nat} (hk : k < l.length) (hx : p l[k] = false) : l.all p = false := by
  cases h : l.all p
  · rfl
  · have := List.all_eq_true.1 h _ (List.getElem_mem hk)
    rw [hx] at this
    exact absurd this (by decide)
set_option maxRecDepth 100000 in
set_option maxHeartbeats 1000000 in
theorem schV_any (l : List Br) (ds : List Value) (a : Option Addr) (cc : Nat) (w : World) (h : BarsV w l ds a cc) : Calls Tryd.prog 19 #[.slice a l.length cc] w fun e w' => e = .returned (.bool (schV l)) ∧ Below w.heap.size w w' := by
  obtain ⟨R, hR⟩ : ∃ R, schV l = R := ⟨_, rfl⟩
  rw [hR]
  have HI := Lib.hid (fun (W : World) (s : ByteArray) (hW : Below w.heap.size w W) => sindex_any l ds a cc s W (h.up hW))
  have HV := Lib.hid (fun (k : Nat) (h1 : k < l.length) (h2 : k < ds.length) (W : World) (hW : Below w.heap.size w W) => barV_any l[k] ds[k] W (h.nm _ (List.getElem_mem h1)) ((h.dims k h1 h2).up hW))
  obtain ⟨n, hn⟩ : ∃ n, l.length = n := ⟨_, rfl⟩
  unfold schV at hR
  rw [hn] at HI hR ⊢
  have hrow := Lib.hid h.row
  have hzl := Lib.hid h.zlen
  have hdn := Lib.hid h.n
  have hds := Lib.hid (fun (k : Nat) (h1 : k < l.length) (h2 : k < ds.length) => show ∃ da dn dc, ds[k] = .slice da dn dc by obtain ⟨da, dc, e, _⟩ := h.dims k h1 h2; exact ⟨da, _, dc, e⟩)
  replace hn := Lib.hid hn
  clear h
  by_cases c0 : 60 < n
  · have hE : Hid (R = false) := Lib.hid (by rw [← hR, decide_eq_false (by omega)]; rfl)
    clear hR
    go_enter Tryd.func19, Tryd.ntmps19
    go_wp2_with fail
    go_ret
    exact ⟨by rw [hE.out]; rfl, Below.refl _ _⟩
  have hn60 : n ≤ 60 := by omega
  rw [decide_eq_true hn60, Bool.true_and] at hR
  replace hR := Lib.hid hR
  clear c0
  go_enter Tryd.func19, Tryd.ntmps19
  go_wp2_with fail
  go_loopg [10] n (fun g i wr => ∃ k : Nat, k ≤ n ∧ i = .int .i64 (k : Int) ∧ Hid (g = n - k ∧ (∀ (j : Nat) (hj : j < l.length), j < k → barV l[j] = true) ∧ ∀ (j : Nat) (hj : j < (l.map (·.mark)).length), j < k → ix (l.map (·.mark)) (l.map (·.mark))[j] = j) ∧ Below w.heap.size w wr)
  case atStart => exact ⟨0, Nat.zero_le _, rfl, Lib.hid ⟨rfl, fun j hj h => absurd h (by omega), fun j hj h => absurd h (by omega)⟩, Below.refl _ _⟩
  case round =>
    obtain ⟨k, hk, rfl, hr, HB⟩ := hrel
    by_cases hlt : k < n
    · have hkl : Hid (k < l.length) := Lib.hid (by rw [hn.out]; exact hlt)
      have hkd : Hid (k < ds.length) := Lib.hid (by rw [hdn.out]; exact hkl.out)
      have hkm : Hid (k < (l.map (·.mark)).length) := Lib.hid (by rw [List.length_map]; exact hkl.out)
      have hkz : Hid (k < (l.zip ds).length) := Lib.hid (by rw [hzl.out]; exact hkl.out)
      obtain ⟨bb, off, rfl, c0, c1, c2, c3, c4⟩ := (hrow.out.bel (Nat.le_refl _) HB).bar k hkz.out
      simp only [List.getElem_zip] at c0 c1 c2 c3 c4
      have HVk := Lib.hid (HV.out k hkl.out hkd.out)
      have hmk : Hid ((l.map (·.mark))[k]'hkm.out = (l[k]'hkl.out).mark) := Lib.hid (List.getElem_map ..)
      obtain ⟨da, dn, dc, hdv⟩ := hds.out k hkl.out hkd.out
      obtain ⟨x, hx⟩ : ∃ x, l[k]'hkl.out = x := ⟨_, rfl⟩
      rw [hx] at c0 c1 c2 c3 HVk hmk
      rw [hdv] at c4 HVk
      replace hx := Lib.hid hx
      clear hdv
      obtain ⟨bv, hbv⟩ : ∃ bv, barV x = bv := ⟨_, rfl⟩
      rw [hbv] at HVk
      unfold barC at HVk
      obtain ⟨mk, sz, ct, c, dd⟩ := x
      dsimp only at c0 c1 c2 c3 HVk hmk
      go_upto_region 6 with fail
      generalize hWW : World.alloc wr _ = WW
      have kx : At WW wr.heap.size 50 #[.string mk, .int .i64 sz, .int .i64 ct, .int .i64 c, .slice da dn dc] := by rw [← hWW]; exact At.new' rfl
      have hbW : Below wr.heap.size wr WW := by rw [← hWW]; exact below_al (Below.refl _ _) _
      replace HB := below_then HB hbW
      clear hWW hbW c0 c1 c2 c3 c4
      have x0 : WW.cell? ⟨wr.heap.size, 0, none⟩ = some (.string mk) := kx.c 0
      have x1 : WW.cell? ⟨wr.heap.size, 1, none⟩ = some (.int .i64 sz) := kx.c 1
      have x2 : WW.cell? ⟨wr.heap.size, 2, none⟩ = some (.int .i64 ct) := kx.c 2
      have x3 : WW.cell? ⟨wr.heap.size, 3, none⟩ = some (.int .i64 c) := kx.c 3
      have x4 : WW.cell? ⟨wr.heap.size, 4, none⟩ = some (.slice da dn dc) := kx.c 4
      go_wp2_with fail
      refine (HVk.out _ HB).mono ?_
      rintro e w1 ⟨rfl, hb⟩
      replace HB := below_then HB hb
      replace kx := kx.bel hb
      clear hb x0 x1 x2 x3 x4 HVk
      rcases bv with _ | _
      · have hE : Hid (R = false) := Lib.hid (by rw [← hR.out, allB_not hkl.out (by rw [hx.out]; exact hbv)]; rfl)
        clear hbv
        go_wp2_with fail
        go_ret
        exact ⟨by rw [hE.out]; rfl, HB⟩
      have x0 : w1.cell? ⟨wr.heap.size, 0, none⟩ = some (.string mk) := kx.c 0
      replace hbv := Lib.hid hbv
      go_wp2_with fail
      refine (HI.out _ mk HB).mono ?_
      rintro e w2 ⟨rfl, hb⟩
      replace HB := below_then HB hb
      clear hb x0 kx
      by_cases q : ixI (l.map (·.mark)) mk = (k : Int)
      · have hst : Hid (ix (l.map (·.mark)) ((l.map (·.mark))[k]'hkm.out) = k) := Lib.hid (by
          rw [hmk.out]
          unfold ixI at q
          split at q <;> omega)
        rw [q]
        clear q
        go_wp2_with fail
        go_roundg (n - (k + 1))
        case measure => have := hr.out.1; omega
        case rel =>
          refine ⟨k + 1, by omega, by go_num, Lib.hid ⟨rfl, fun j hj hjk => ?_, fun j hj hjk => ?_⟩, HB⟩
          · by_cases e : j = k
            · subst e; rw [hx.out]; exact hbv.out
            · exact hr.out.2.1 j hj (by omega)
          · by_cases e : j = k
            · subst e; exact hst.out
            · exact hr.out.2.2 j hj (by omega)
      · have hE : Hid (R = false) := Lib.hid (by
          have hnd : ¬ (l.map (·.mark)).Nodup := fun hnd => q (by
            have h1 := (nodup_iff _).1 hnd k hkm.out
            rw [hmk.out] at h1
            unfold ixI
            rw [h1, if_pos hkm.out])
          rw [← hR.out]
          unfold marksD
          rw [decide_eq_false hnd, Bool.and_false])
        obtain ⟨r, hr9⟩ : ∃ r, ixI (l.map (·.mark)) mk = r := ⟨_, rfl⟩
        rw [hr9] at q ⊢
        have g1 : (r != (k : Int)) = true := by simp [q]
        clear q hr9
        go_wp2_with fail
        go_ret
        exact ⟨by rw [hE.out]; rfl, HB⟩
    · have hE : Hid (R = true) := Lib.hid (by
        have h1 := hn.out
        rw [← hR.out]
        have h2 : l.all barV = true := List.all_eq_true.2 fun x hx => by
          obtain ⟨j, hj, rfl⟩ := List.getElem_of_mem hx
          exact hr.out.2.1 j hj (by omega)
        have h3 : (l.map (·.mark)).Nodup := (nodup_iff _).2 fun j hj => hr.out.2.2 j hj (by rw [List.length_map] at hj; omega)
        unfold marksD
        rw [h2, decide_eq_true h3]
        rfl)
      go_wp2_with fail
      go_ret
      exact ⟨by rw [hE.out]; rfl, HB⟩
end Go.Proofs.YtjlkbmaigcgnbaaDoor
set_option linter.unusedVariables false
namespace Go.Proofs.YtjlkbmaigcgnbaaDoor
open Go.ChangeShapes Go.WideShapes Go.ChangeAt Go.RowKit
open Go.Lib (decDigits itoa atoiAll parseUint10 parseMag indexByte decDigits_one NumEnd)
theorem dec_step {n : Nat} (h : 10 ≤ n) : Lib.decDigits n = Lib.decDigits (n / 10) ++ [UInt8.ofNat (48 + n % 10)] := by
  rw [Lib.decDigits, dif_neg (by omega)]
theorem dec_len19 : ∀ (k n : Nat), n < 10 ^ (k + 1) → (decDigits n).length ≤ k + 1
  | 0, n, h => by rw [decDigits_one (by omega)]; simp
  | k + 1, n, h => by
    by_cases h0 : n < 10
    · rw [decDigits_one h0]; simp
    · rw [dec_step (by omega), List.length_append]
      have := dec_len19 k (n / 10) (by rw [Nat.pow_succ] at h; omega)
      simp
      omega
end Go.Proofs.YtjlkbmaigcgnbaaDoor
set_option linter.unusedVariables false
namespace Go.Proofs.YtjlkbmaigcgnbaaDoor
open Go.ChangeShapes Go.WideShapes Go.ChangeAt Go.RowKit
open Go.Lib (decDigits itoa atoiAll itoa_nonneg)
structure WordsOk (x : Ent) : Prop where
  d0 : 0 ≤ x.day
  k0 : 0 ≤ x.kind
  dl : (itoa x.day).length ≤ 15
  kl : (itoa x.kind).length ≤ 15
  nm : nameB (by_ x.name) = true
theorem WordsOk.of {x : Ent} (h : entOk x = true) : WordsOk x := by
  unfold entOk at h
  simp only [Bool.and_eq_true, decide_eq_true_eq] at h
  obtain ⟨⟨⟨⟨h1, h2⟩, h3⟩, h4⟩, h5⟩ := h
  have e1 := itoa_nonneg x.day.toNat
  have e2 := itoa_nonneg x.kind.toNat
  rw [Int.toNat_of_nonneg h1] at e1
  rw [Int.toNat_of_nonneg (by omega)] at e2
  refine ⟨h1, by omega, ?_, ?_, h5⟩
  · rw [e1]; have := dec_len19 9 x.day.toNat (by omega); omega
  · rw [e2]; have := dec_len19 9 x.kind.toNat (by omega); omega
end Go.Proofs.YtjlkbmaigcgnbaaDoor
set_option linter.unusedVariables false
namespace Go.Proofs.YtjlkbmaigcgnbaaDoor
open Go.ChangeShapes Go.WideShapes Go.ChangeAt Go.RowKit
def encU (c : UInt8) : List Value := [.int .u8 (c.toNat : Int)]
theorem encU_len (c : UInt8) : (encU c).length = 1 := rfl
end Go.Proofs.YtjlkbmaigcgnbaaDoor
set_option linter.unusedVariables false
namespace Go.Proofs.YtjlkbmaigcgnbaaDoor
open Go.ChangeShapes Go.WideShapes Go.ChangeAt Go.RowKit
def IsB (l : List UInt8) (v : Value) (w : World) : Prop := ∃ a c, v = .slice a l.length c ∧ l.length ≤ c ∧ c ≤ 9223372036854775807 ∧ RowAt encU 1 w.heap.size w a l ∧ ((a = none ∧ c = 0) ∨ ∃ b off, a = some ⟨b, off, none⟩)
theorem IsB.up {l : List UInt8} {v : Value} {w w' : World} (hb : Below w.heap.size w w') (h : IsB l v w) : IsB l v w' := by
  obtain ⟨a, c, h1, h2, h3, h4, h5⟩ := h
  exact ⟨a, c, h1, h2, h3, (h4.bel (Nat.le_refl _) hb).mono hb.size, h5⟩
theorem IsB.nil (w : World) : IsB [] (.slice none 0 0) w := ⟨none, 0, rfl, Nat.le_refl _, by omega, RowAt.nil _ _, .inl ⟨rfl, rfl⟩⟩
theorem IsB.shape {l : List UInt8} {v : Value} {w : World} (h : IsB l v w) : ∃ a n c, v = .slice a n c ∧ n = l.length ∧ n ≤ c ∧ c ≤ 9223372036854775807 := by
  obtain ⟨a, c, h1, h2, h3, _⟩ := h
  exact ⟨a, l.length, c, h1, rfl, h2, h3⟩
theorem IsB.sub {l : List UInt8} {a : Option Addr} {n c : Nat} {w : World} (h : IsB l (.slice a n c) w) (i j : Nat) (hij : i ≤ j) (hj : j ≤ n) :
    IsB ((l.drop i).take (j - i)) (sliced a i j c 1) w := by
  obtain ⟨a', c', e, h2, h3, h4, h5⟩ := h
  injection e with e1 e2 e3
  subst e1 e2 e3
  have hlen : ((l.drop i).take (j - i)).length = j - i := by rw [List.length_take, List.length_drop]; omega
  unfold sliced
  refine ⟨_, _, by rw [hlen], by rw [hlen]; omega, by omega, ?_, ?_⟩
  · intro k hk
    rw [hlen] at hk
    have hik : i + k < l.length := by omega
    obtain ⟨b, off, e, hlt, hc⟩ := h4 (i + k) hik
    rw [if_neg (by omega), e]
    refine ⟨b, off + i, by simp [Addr.add], hlt, fun q u hu => ?_⟩
    have := hc q u (by rw [← hu]; simp)
    rw [Nat.mul_one] at this ⊢
    rw [← this]
    congr 2
    omega
  · rcases h5 with ⟨rfl, rfl⟩ | ⟨b, off, rfl⟩
    · exact .inl ⟨by simp, by simp⟩
    · right
      split
      · exact ⟨b, off, rfl⟩
      · refine ⟨b, off + i, ?_⟩
        simp [Addr.add]
theorem elemB : Tryd.prog.underlying 130 = some (.slice (Tryd.prog.elem 130)) := by kernel_rfl
theorem sizeB (w : World) : (sizeOf (Tryd.prog.elem 130)).run Tryd.prog w = .ok 1 w := by
  have : Tryd.prog.elem 130 = 5 := by kernel_rfl
  rw [this]
  exact Tryd.sizeOf5 w
theorem IsB.lo {l : List UInt8} {a : Option Addr} {n c : Nat} {w : World} (h : IsB l (.slice a n c) w) (i : Nat) (hi : i ≤ n) :
    ∃ A, (∀ W, (Instr.slice 130 (.slice a n c) (some (.int .i64 (i : Int))) none none).run Tryd.prog W = .ok (.slice A (n - i) (c - i)) W) ∧ IsB (l.drop i) (.slice A (n - i) (c - i)) w := by
  have hl : l.length = n := by obtain ⟨a', n', c', e, h1, h2, h3⟩ := h.shape; injection e with e1 e2 e3; omega
  have h2 := h.sub i n hi (Nat.le_refl _)
  rw [List.take_of_length_le (by rw [List.length_drop]; omega)] at h2
  refine ⟨_, fun W => ?_, h2⟩
  rw [run_slice_l W 130 a n c elemB .i64 i (by omega) (by omega), sizeB]
  simp only [Result.andThen_ok, Int.toNat_natCast]
  rfl
theorem IsB.hi {l : List UInt8} {a : Option Addr} {n c : Nat} {w : World} (h : IsB l (.slice a n c) w) (j : Nat) (hj : j ≤ n) :
    ∃ A, (∀ W, (Instr.slice 130 (.slice a n c) none (some (.int .i64 (j : Int))) none).run Tryd.prog W = .ok (.slice A j c) W) ∧ IsB (l.take j) (.slice A j c) w := by
  have hn : n ≤ c := by obtain ⟨a', n', c', e, h1, h2, h3⟩ := h.shape; injection e with e1 e2 e3; omega
  have h2 := h.sub 0 j (Nat.zero_le _) hj
  refine ⟨_, fun W => ?_, by simpa [sliced] using h2⟩
  rw [run_slice_h W 130 a n c elemB .i64 j (by omega) (by omega), sizeB]
  simp only [Result.andThen_ok, Int.toNat_natCast]
  simp [sliced]
end Go.Proofs.YtjlkbmaigcgnbaaDoor
set_option linter.unusedVariables false
namespace Go.Proofs.YtjlkbmaigcgnbaaDoor
open Go.ChangeShapes Go.WideShapes Go.ChangeAt Go.RowKit
theorem IsB.set {l : List UInt8} {g cap n : Nat} {w : World} (h : IsB l (.slice (some ⟨g, 0, none⟩) n cap) w) {k : Nat} (hk : k < l.length) (c : UInt8) : IsB (l.set k c) (.slice (some ⟨g, 0, none⟩) n cap) (w.setCell ⟨g, k, none⟩ (.int .u8 (c.toNat : Int))) := by
  obtain ⟨a, c', e, h2, h3, h4, h5⟩ := h
  injection e with e1 e2 e3
  subst e1 e2 e3
  refine ⟨_, cap, by rw [List.length_set], by rw [List.length_set]; exact h2, h3, fun i hi => ?_, .inr ⟨g, 0, rfl⟩⟩
  have hi' : i < l.length := by rw [List.length_set] at hi; exact hi
  obtain ⟨b, off, e, hlt, hc⟩ := h4 i hi'
  simp only [Option.some.injEq, Addr.mk.injEq, and_true] at e
  obtain ⟨rfl, rfl⟩ := e
  refine ⟨g, 0, rfl, by rw [World.size_setCell]; exact hlt, fun j u hu => ?_⟩
  have hj : j = 0 := by have := (List.getElem?_eq_some_iff.1 hu).1; rw [encU_len] at this; omega
  subst hj
  have h0 := hc 0 _ rfl
  have e0 : (0 + i * 1 + 0) = i := by omega
  rw [e0] at h0 ⊢
  by_cases hik : i = k
  · subst hik
    rw [World.cell?_setCell_same _ _ _ h0, ← hu]
    simp [encU]
  · rw [World.cell?_setCell_other _ _ _ _ (fun e => hik (by injection e with _ e2 _; exact e2.symm)), h0, ← hu]
    simp [encU, Ne.symm hik]
theorem regrown_call_at {P : Program} {f : FuncId} {args : Array Value} {w : World} {d : Nat} {os : Array Obj} {v : Value}
    (h : ∀ W : World, Below w.heap.size w W → Calls P f args W fun e w' => e = .returned v ∧ Below W.heap.size W w') : Calls P f args (Go.Sort.grow (redrawn w d) os) fun e w'' => e = .returned v ∧ ∃ p : Regrown, w'' = Go.Sort.grow (redrawn w p.d) p.os :=
  Calls.regrown_of (h _ (below_regrown _ _ _))
end Go.Proofs.YtjlkbmaigcgnbaaDoor
