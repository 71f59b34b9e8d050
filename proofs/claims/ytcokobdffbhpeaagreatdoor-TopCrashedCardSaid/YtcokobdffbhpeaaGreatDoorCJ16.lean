/- bend.Cut, bundle.one; schedule: index, valid schedules. Plain: digits, decimal texts, and where a byte stands first. -/
import Derived.Test.YtcokobdffbhpeaaGreatDoorCJ15
import Derived.Test.YtcokobdffbhpeaaGreatDoorCJ04
import Derived.Test.YtcokobdffbhpeaaGreatDoorCJ00
import Derived.Lib.AtoiAll
import Derived.Lib.AtoiTie
import Derived.Lib.Bytealg
import Derived.Lib.LaidTab
import Derived.Lib.ItoaMem
import Derived.Lib.ItoaLen
set_option linter.unusedVariables false
namespace Go.Proofs.YtcokobdffbhpeaaGreatDoor
open Go.ChangeShapes Go.WideShapes Go.ChangeAt Go.RowKit
set_option maxRecDepth 100000 in
set_option maxHeartbeats 1000000 in
theorem cut_any (b : Br) (v : Value) (w : World) (hm : b.mark.size ≤ 1000000) (hv : IsI b.dims v w) (hok : barV b = true) : Calls Tryz.prog 54 #[.agg (barC b v)] w fun e w' => e = .returned (.tuple #[.int .i64 (cutL b), .int .i64 0]) ∧ Below w.heap.size w w' := by
  have HV := Lib.hid (fun W (hW : Below w.heap.size w W) => dev_any b v W hm (hv.up hW) hok)
  have hb := dev_le (barV_legs hok)
  obtain ⟨C, hC⟩ : ∃ C, cutL b = C := ⟨_, rfl⟩
  rw [hC]
  unfold cutL at hC
  generalize devHi b = H at *
  generalize devLo b = L at *
  obtain ⟨M, hM⟩ : ∃ M, max 0 H = M := ⟨_, rfl⟩
  rw [hM] at hC
  have bM : 0 ≤ M ∧ M ≤ 524288000 := by omega
  obtain ⟨Q, hQ⟩ : ∃ Q, (M + 4999) / 5000 = Q := ⟨_, rfl⟩
  rw [hQ] at hC
  have HU := Lib.hid (fun w => up_any M 5000 (by omega) (by decide) w)
  rw [show M + 5000 - 1 = M + 4999 by omega, hQ] at HU
  obtain ⟨P, hP⟩ : ∃ P, 5 * Q = P := ⟨_, rfl⟩
  rw [hP] at hC
  have u1 : IntKind.i64.wrap (5 * Q) = P := by rw [hP, IntWalk.i64_in _ (by omega)]
  clear hQ hP bM hb
  unfold barC at *
  unfold spC at *
  obtain ⟨mk, sz, ct, c, l⟩ := b
  dsimp only at *
  obtain ⟨a, cc, rfl, -, -, -⟩ := hv
  generalize l.length = n0 at *
  clear hok
  go_enter Tryz.func54, Tryz.ntmps54
  go_wp2_with fail
  generalize hWW : World.alloc w _ = WW
  have kx : At WW w.heap.size 51 #[.string mk, .int .i64 sz, .int .i64 ct, .int .i64 c, .slice a n0 cc] := by rw [← hWW]; exact At.new' rfl
  have HB : Below w.heap.size w WW := by rw [← hWW]; exact below_al (Below.refl _ _) _
  clear hWW
  refine (HV.out _ HB).mono ?_
  rintro e w1 ⟨rfl, hb⟩
  replace HB := below_then HB hb
  clear hb HV kx
  go_wp2_with fail
  generalize hWW : World.alloc _ _ = W5
  have ky : At W5 w1.heap.size 114 #[.int .i64 L, .int .i64 H] := by rw [← hWW]; exact At.new' rfl
  have hbW : Below w1.heap.size w1 W5 := by rw [← hWW]; exact below_al (Below.refl _ _) _
  replace HB := below_then HB hbW
  have y1 : W5.cell? ⟨w1.heap.size, 1, none⟩ = some (.int .i64 H) := ky.c 1
  clear hWW hbW ky
  refine (HU.out _).mono ?_
  rintro e w4 ⟨rfl, hb⟩
  replace HB := below_then HB hb
  clear hb HU y1
  go_wp2_with fail
  exact bodyPost_ret (v := .tuple #[.int .i64 C, .int .i64 0]) (by simp [results, Tryz.results54, go_sem, *]) rfl ⟨rfl, HB⟩
set_option maxRecDepth 100000 in
set_option maxHeartbeats 1000000 in
theorem one_any (b : Br) (v : Value) (w : World) (hm : b.mark.size ≤ 1000000) (hv : IsI b.dims v w) (hok : barV b = true) : Calls Tryz.prog 33 #[.agg (barC b v)] w fun e w' => e = .returned (.int .i64 (massB b)) ∧ Below w.heap.size w w' := by
  have HV := Lib.hid (fun W (hW : Below w.heap.size w W) => cut_any b v W hm (hv.up hW) hok)
  have hL := barV_legs hok
  have hb := cut_le hL
  have HM := Lib.hid (fun w => mass_any b.size (cutL b) hL.size (by omega) w)
  unfold massB
  generalize cutL b = C at *
  unfold barC at *
  obtain ⟨mk, sz, ct, c, l⟩ := b
  dsimp only at *
  obtain ⟨a, cc, rfl, -, -, -⟩ := hv
  generalize l.length = n0 at *
  generalize massOf sz C = M at *
  clear hok hL hb
  go_enter Tryz.func33, Tryz.ntmps33
  go_wp2_with fail
  generalize hWW : World.alloc w _ = WW
  have kx : At WW w.heap.size 51 #[.string mk, .int .i64 sz, .int .i64 ct, .int .i64 c, .slice a n0 cc] := by rw [← hWW]; exact At.new' rfl
  have HB : Below w.heap.size w WW := by rw [← hWW]; exact below_al (Below.refl _ _) _
  clear hWW
  refine (HV.out _ HB).mono ?_
  rintro e w1 ⟨rfl, hb⟩
  replace HB := below_then HB hb
  replace kx := kx.bel hb
  have x1 : w1.cell? ⟨w.heap.size, 1, none⟩ = some (.int .i64 sz) := kx.c 1
  clear hb HV kx
  go_wp2_with fail
  refine (HM.out _).mono ?_
  rintro e w4 ⟨rfl, hb⟩
  replace HB := below_then HB hb
  clear hb HM x1
  go_wp2_with fail
  go_ret
  exact ⟨rfl, HB⟩
def encQ (x : Br × Value) : List Value := [.string x.1.mark, .int .i64 x.1.size, .int .i64 x.1.count, .int .i64 x.1.code, x.2]
theorem encQ_len (x : Br × Value) : (encQ x).length = 5 := rfl
structure BarsV (w : World) (l : List Br) (ds : List Value) (a : Option Addr) (c : Nat) : Prop where
  cap : l.length ≤ c
  cap2 : c ≤ 9223372036854775807
  row : RowAt encQ 5 w.heap.size w a (l.zip ds)
  n : ds.length = l.length
  dims : ∀ (k : Nat) (h1 : k < l.length) (h2 : k < ds.length), IsI l[k].dims ds[k] w
  nm : ∀ b ∈ l, b.mark.size ≤ 1000000
theorem BarsV.up {w w' : World} {l : List Br} {ds : List Value} {a : Option Addr} {c : Nat} (h : BarsV w l ds a c) (hb : Below w.heap.size w w') : BarsV w' l ds a c :=
  ⟨h.cap, h.cap2, (h.row.bel (Nat.le_refl _) hb).mono hb.size, h.n, fun k h1 h2 => (h.dims k h1 h2).up hb, h.nm⟩
theorem BarsV.zlen {w : World} {l : List Br} {ds : List Value} {a : Option Addr} {c : Nat} (h : BarsV w l ds a c) : (l.zip ds).length = l.length := by
  rw [List.length_zip, h.n, Nat.min_self]
theorem BarsV.zat {w : World} {l : List Br} {ds : List Value} {a : Option Addr} {c : Nat} (h : BarsV w l ds a c) {x : Br × Value} (hx : x ∈ l.zip ds) : x.1 ∈ l ∧ IsI x.1.dims x.2 w := by
  obtain ⟨k, hk, rfl⟩ := List.getElem_of_mem hx
  rw [h.zlen] at hk
  have h2 : k < ds.length := by rw [h.n]; exact hk
  rw [List.getElem_zip]
  exact ⟨List.getElem_mem hk, h.dims k hk h2⟩
theorem fxI_ix {w : World} {l : List Br} {ds : List Value} {a : Option Addr} {c : Nat} (h : BarsV w l ds a c) (s : ByteArray) : fxI (fun x : Br × Value => decide (x.1.mark = s)) (l.zip ds) = ixI (l.map (·.mark)) s := by
  have e : (l.zip ds).map (fun x : Br × Value => x.1.mark) = l.map (·.mark) := by
    have h1 : (l.zip ds).map Prod.fst = l := List.map_fst_zip (by rw [h.n]; exact Nat.le_refl _)
    calc (l.zip ds).map (fun x : Br × Value => x.1.mark) = ((l.zip ds).map Prod.fst).map (·.mark) := by rw [List.map_map]; rfl
      _ = _ := by rw [h1]
  unfold fxI ixI ix
  rw [← e, List.findIdx_map, List.length_map]
  rfl
theorem RowAt.bar {B : Nat} {w : World} {ao : Option Addr} {l : List (Br × Value)} (h : RowAt encQ 5 B w ao l) (k : Nat) (hk : k < l.length) : ∃ b off, ao = some ⟨b, off, none⟩ ∧ w.cell? ⟨b, off + k * 5, none⟩ = some (.string l[k].1.mark) ∧ w.cell? ⟨b, off + k * 5 + 1, none⟩ = some (.int .i64 l[k].1.size) ∧ w.cell? ⟨b, off + k * 5 + 2, none⟩ = some (.int .i64 l[k].1.count) ∧ w.cell? ⟨b, off + k * 5 + 3, none⟩ = some (.int .i64 l[k].1.code) ∧ w.cell? ⟨b, off + k * 5 + 4, none⟩ = some l[k].2 := by
  obtain ⟨b, off, e, hlt, hc⟩ := h k hk
  exact ⟨b, off, e, hc 0 _ rfl, hc 1 _ rfl, hc 2 _ rfl, hc 3 _ rfl, hc 4 _ rfl⟩
set_option maxRecDepth 100000 in
set_option maxHeartbeats 1000000 in
theorem sindexF_any (x : Br × Value) (s : ByteArray) (X : Nat) (w : World) (kx : At w X 9 #[.string s]) : Calls Tryz.prog 71 #[.agg (encQ x).toArray, .pointer (some ⟨X, 0, none⟩)] w fun e w' => e = .returned (.bool (decide (x.1.mark = s))) ∧ Below w.heap.size w w' := by
  obtain ⟨⟨mk, sz, ct, c, l⟩, v⟩ := x
  unfold encQ
  dsimp only
  have x0 : w.cell? ⟨X, 0, none⟩ = some (.string s) := kx.c 0
  have hX : X < w.heap.size := kx.lt
  have es : (mk.toList == s.toList) = decide (mk = s) := by
    by_cases h : mk = s
    · rw [str_eq h, decide_eq_true h]
    · rw [str_ne h, decide_eq_false h]
  generalize decide (mk = s) = R at *
  go_enter Tryz.func71, Tryz.ntmps71
  go_wp2_with fail
  go_ret
  exact ⟨rfl, below_al (Below.refl _ _) _⟩
set_option maxRecDepth 100000 in
set_option maxHeartbeats 1000000 in
theorem sindex_any (l : List Br) (ds : List Value) (a : Option Addr) (cc : Nat) (s : ByteArray) (w : World) (h : BarsV w l ds a cc) : Calls Tryz.prog 52 #[.slice a l.length cc, .string s] w fun e w' => e = .returned (.int .i64 (ixI (l.map (·.mark)) s)) ∧ Below w.heap.size w w' := by
  have hR := fxI_ix h s
  obtain ⟨R, hR2⟩ : ∃ R, ixI (l.map (·.mark)) s = R := ⟨_, rfl⟩
  rw [hR2] at hR ⊢
  have HI := Lib.hid (fun (W : World) (X : Nat) (hW : Below w.heap.size w W) (kx : At W X 9 #[.string s]) => idxBar encQ encQ_len (l.zip ds) a cc (by rw [h.zlen]; exact h.cap) h.cap2 _ W (Nat.le_refl _) (Lib.hid (h.up hW).row) 71 (.pointer (some ⟨X, 0, none⟩)) (fun args w => by simp [go_sem]) (fun x => decide (x.1.mark = s)) (Lib.hid fun x hx W' hW' => sindexF_any x s X W' (kx.bel hW')))
  rw [h.zlen, hR] at HI
  clear hR hR2 h
  generalize l.length = n at *
  go_enter Tryz.func52, Tryz.ntmps52
  go_wp2_with fail
  generalize hWW : World.alloc w _ = WW
  have kx : At WW w.heap.size 9 #[.string s] := by rw [← hWW]; exact At.new' rfl
  have HB : Below w.heap.size w WW := by rw [← hWW]; exact below_al (Below.refl _ _) _
  clear hWW
  refine (HI.out _ _ HB kx).mono ?_
  rintro e w1 ⟨rfl, hb⟩
  replace HB := below_then HB hb
  clear hb HI kx
  go_wp2_with fail
  go_ret
  exact ⟨rfl, HB⟩
theorem allB_not {p : Br → Bool} {l : List Br} {k : Nat} (hk : k < l.length) (hx : p l[k] = false) : l.all p = false := by
  cases h : l.all p
  · rfl
  · have := List.all_eq_true.1 h _ (List.getElem_mem hk)
    rw [hx] at this
    exact absurd this (by decide)
set_option maxRecDepth 100000 in
set_option maxHeartbeats 1000000 in
theorem schV_any (l : List Br) (ds : List Value) (a : Option Addr) (cc : Nat) (w : World) (h : BarsV w l ds a cc) : Calls Tryz.prog 30 #[.slice a l.length cc] w fun e w' => e = .returned (.bool (schV l)) ∧ Below w.heap.size w w' := by
  obtain ⟨R, hR⟩ : ∃ R, schV l = R := ⟨_, rfl⟩
  rw [hR]
  have HI := Lib.hid (fun (W : World) (s : ByteArray) (hW : Below w.heap.size w W) => sindex_any l ds a cc s W (h.up hW))
  have HV := Lib.hid (fun (k : Nat) (h1 : k < l.length) (h2 : k < ds.length) (W : World) (hW : Below w.heap.size w W) => barV_any l[k] ds[k] W (h.nm _ (List.getElem_mem h1)) ((h.dims k h1 h2).up hW))
  obtain ⟨n, hn⟩ : ∃ n, l.length = n := ⟨_, rfl⟩
  unfold schV at hR
  rw [hn] at HI hR ⊢
  have hrow := Lib.hid h.row
  have hzl := Lib.hid h.zlen
  have hdn := Lib.hid h.n
  have hds := Lib.hid (fun (k : Nat) (h1 : k < l.length) (h2 : k < ds.length) => show ∃ da dn dc, ds[k] = .slice da dn dc by obtain ⟨da, dc, e, _⟩ := h.dims k h1 h2; exact ⟨da, _, dc, e⟩)
  replace hn := Lib.hid hn
  clear h
  by_cases c0 : 60 < n
  · have hE : Hid (R = false) := Lib.hid (by rw [← hR, decide_eq_false (by omega)]; rfl)
    clear hR
    go_enter Tryz.func30, Tryz.ntmps30
    go_wp2_with fail
    go_ret
    exact ⟨by rw [hE.out]; rfl, Below.refl _ _⟩
  have hn60 : n ≤ 60 := by omega
  rw [decide_eq_true hn60, Bool.true_and] at hR
  replace hR := Lib.hid hR
  clear c0
  go_enter Tryz.func30, Tryz.ntmps30
  go_wp2_with fail
  go_loopg [10] n (fun g i wr => ∃ k : Nat, k ≤ n ∧ i = .int .i64 (k : Int) ∧ Hid (g = n - k ∧ (∀ (j : Nat) (hj : j < l.length), j < k → barV l[j] = true) ∧ ∀ (j : Nat) (hj : j < (l.map (·.mark)).length), j < k → ix (l.map (·.mark)) (l.map (·.mark))[j] = j) ∧ Below w.heap.size w wr)
  case atStart => exact ⟨0, Nat.zero_le _, rfl, Lib.hid ⟨rfl, fun j hj h => absurd h (by omega), fun j hj h => absurd h (by omega)⟩, Below.refl _ _⟩
  case round =>
    obtain ⟨k, hk, rfl, hr, HB⟩ := hrel
    by_cases hlt : k < n
    · have hkl : Hid (k < l.length) := Lib.hid (by rw [hn.out]; exact hlt)
      have hkd : Hid (k < ds.length) := Lib.hid (by rw [hdn.out]; exact hkl.out)
      have hkm : Hid (k < (l.map (·.mark)).length) := Lib.hid (by rw [List.length_map]; exact hkl.out)
      have hkz : Hid (k < (l.zip ds).length) := Lib.hid (by rw [hzl.out]; exact hkl.out)
      obtain ⟨bb, off, rfl, c0, c1, c2, c3, c4⟩ := (hrow.out.bel (Nat.le_refl _) HB).bar k hkz.out
      simp only [List.getElem_zip] at c0 c1 c2 c3 c4
      have HVk := Lib.hid (HV.out k hkl.out hkd.out)
      have hmk : Hid ((l.map (·.mark))[k]'hkm.out = (l[k]'hkl.out).mark) := Lib.hid (List.getElem_map ..)
      obtain ⟨da, dn, dc, hdv⟩ := hds.out k hkl.out hkd.out
      obtain ⟨x, hx⟩ : ∃ x, l[k]'hkl.out = x := ⟨_, rfl⟩
      rw [hx] at c0 c1 c2 c3 HVk hmk
      rw [hdv] at c4 HVk
      replace hx := Lib.hid hx
      clear hdv
      obtain ⟨bv, hbv⟩ : ∃ bv, barV x = bv := ⟨_, rfl⟩
      rw [hbv] at HVk
      unfold barC at HVk
      obtain ⟨mk, sz, ct, c, dd⟩ := x
      dsimp only at c0 c1 c2 c3 HVk hmk
      go_upto_region 6 with fail
      generalize hWW : World.alloc wr _ = WW
      have kx : At WW wr.heap.size 51 #[.string mk, .int .i64 sz, .int .i64 ct, .int .i64 c, .slice da dn dc] := by rw [← hWW]; exact At.new' rfl
      have hbW : Below wr.heap.size wr WW := by rw [← hWW]; exact below_al (Below.refl _ _) _
      replace HB := below_then HB hbW
      clear hWW hbW c0 c1 c2 c3 c4
      have x0 : WW.cell? ⟨wr.heap.size, 0, none⟩ = some (.string mk) := kx.c 0
      have x1 : WW.cell? ⟨wr.heap.size, 1, none⟩ = some (.int .i64 sz) := kx.c 1
      have x2 : WW.cell? ⟨wr.heap.size, 2, none⟩ = some (.int .i64 ct) := kx.c 2
      have x3 : WW.cell? ⟨wr.heap.size, 3, none⟩ = some (.int .i64 c) := kx.c 3
      have x4 : WW.cell? ⟨wr.heap.size, 4, none⟩ = some (.slice da dn dc) := kx.c 4
      go_wp2_with fail
      refine (HVk.out _ HB).mono ?_
      rintro e w1 ⟨rfl, hb⟩
      replace HB := below_then HB hb
      replace kx := kx.bel hb
      clear hb x0 x1 x2 x3 x4 HVk
      rcases bv with _ | _
      · have hE : Hid (R = false) := Lib.hid (by rw [← hR.out, allB_not hkl.out (by rw [hx.out]; exact hbv)]; rfl)
        clear hbv
        go_wp2_with fail
        go_ret
        exact ⟨by rw [hE.out]; rfl, HB⟩
      have x0 : w1.cell? ⟨wr.heap.size, 0, none⟩ = some (.string mk) := kx.c 0
      replace hbv := Lib.hid hbv
      go_wp2_with fail
      refine (HI.out _ mk HB).mono ?_
      rintro e w2 ⟨rfl, hb⟩
      replace HB := below_then HB hb
      clear hb x0 kx
      by_cases q : ixI (l.map (·.mark)) mk = (k : Int)
      · have hst : Hid (ix (l.map (·.mark)) ((l.map (·.mark))[k]'hkm.out) = k) := Lib.hid (by
          rw [hmk.out]
          unfold ixI at q
          split at q <;> omega)
        rw [q]
        clear q
        go_wp2_with fail
        go_roundg (n - (k + 1))
        case measure => have := hr.out.1; omega
        case rel =>
          refine ⟨k + 1, by omega, by go_num, Lib.hid ⟨rfl, fun j hj hjk => ?_, fun j hj hjk => ?_⟩, HB⟩
          · by_cases e : j = k
            · subst e; rw [hx.out]; exact hbv.out
            · exact hr.out.2.1 j hj (by omega)
          · by_cases e : j = k
            · subst e; exact hst.out
            · exact hr.out.2.2 j hj (by omega)
      · have hE : Hid (R = false) := Lib.hid (by
          have hnd : ¬ (l.map (·.mark)).Nodup := fun hnd => q (by
            have h1 := (nodup_iff _).1 hnd k hkm.out
            rw [hmk.out] at h1
            unfold ixI
            rw [h1, if_pos hkm.out])
          rw [← hR.out]
          unfold marksD
          rw [decide_eq_false hnd, Bool.and_false])
        obtain ⟨r, hr9⟩ : ∃ r, ixI (l.map (·.mark)) mk = r := ⟨_, rfl⟩
        rw [hr9] at q ⊢
        have g1 : (r != (k : Int)) = true := by simp [q]
        clear q hr9
        go_wp2_with fail
        go_ret
        exact ⟨by rw [hE.out]; rfl, HB⟩
    · have hE : Hid (R = true) := Lib.hid (by
        have h1 := hn.out
        rw [← hR.out]
        have h2 : l.all barV = true := List.all_eq_true.2 fun x hx => by
          obtain ⟨j, hj, rfl⟩ := List.getElem_of_mem hx
          exact hr.out.2.1 j hj (by omega)
        have h3 : (l.map (·.mark)).Nodup := (nodup_iff _).2 fun j hj => hr.out.2.2 j hj (by rw [List.length_map] at hj; omega)
        unfold marksD
        rw [h2, decide_eq_true h3]
        rfl)
      go_wp2_with fail
      go_ret
      exact ⟨by rw [hE.out]; rfl, HB⟩
end Go.Proofs.YtcokobdffbhpeaaGreatDoor
set_option linter.unusedVariables false
namespace Go.Proofs.YtcokobdffbhpeaaGreatDoor
open Go.ChangeShapes Go.WideShapes Go.ChangeAt Go.RowKit
open Go.Lib (decDigits itoa atoiAll parseUint10 parseMag indexByte decDigits_one NumEnd)
theorem by_append (a b : ByteArray) : by_ (a ++ b) = by_ a ++ by_ b := by
  show (a ++ b).data.toList = a.data.toList ++ b.data.toList
  simp
theorem mk_by (l : List UInt8) : by_ (⟨l.toArray⟩ : ByteArray) = l := by simp
theorem by_dot (c : UInt8) : by_ (⟨#[c]⟩ : ByteArray) = [c] := rfl
theorem mk_size (l : List UInt8) : (⟨l.toArray⟩ : ByteArray).size = l.length := by simp [ByteArray.size]
theorem dec_step {n : Nat} (h : 10 ≤ n) : Lib.decDigits n = Lib.decDigits (n / 10) ++ [UInt8.ofNat (48 + n % 10)] := by
  rw [Lib.decDigits, dif_neg (by omega)]
def digB (c : UInt8) : Bool := decide (48 ≤ c.toNat) && decide (c.toNat ≤ 57)
theorem digB_bd {c : UInt8} (h : digB c = true) : 48 ≤ c.toNat ∧ c.toNat ≤ 57 := by simpa [digB] using h
theorem dec_dig : ∀ (n : Nat), (decDigits n).all digB = true ∧ decDigits n ≠ [] := by
  intro n
  induction n using Nat.strongRecOn with
  | _ n ih =>
    by_cases h : n < 10
    · rw [decDigits_one h]
      refine ⟨?_, by simp⟩
      simp [digB]
      omega
    · rw [dec_step (by omega)]
      refine ⟨?_, by simp⟩
      rw [List.all_append, (ih (n / 10) (by omega)).1]
      simp [digB]
      omega
theorem pu_app : ∀ (l m : List UInt8) (a : Nat), parseUint10 a (l ++ m) = match parseUint10 a l with | .ok u => parseUint10 u m | e => e
  | [], m, a => rfl
  | c :: l, m, a => by
    simp only [List.cons_append, parseUint10]
    split
    · split
      · rfl
      · split
        · rfl
        · exact pu_app l m _
    · rfl
theorem pu_dec : ∀ (n : Nat), n < 18446744073709551616 → parseUint10 0 (decDigits n) = .ok n := by
  intro n
  induction n using Nat.strongRecOn with
  | _ n ih =>
    intro hn
    by_cases h : n < 10
    · rw [decDigits_one h]
      have e : (UInt8.ofNat (48 + n)).toNat = 48 + n := by simp; omega
      simp only [parseUint10, e]
      rw [if_pos (by omega), if_neg (by omega), if_neg (by omega)]
      congr 1
      omega
    · have e : (UInt8.ofNat (48 + n % 10)).toNat = 48 + n % 10 := by simp; omega
      rw [dec_step (by omega), pu_app, ih (n / 10) (by omega) (by omega)]
      simp only [parseUint10, e]
      rw [if_pos (by omega), if_neg (by omega), if_neg (by omega)]
      congr 1
      omega
theorem pm_dec (n : Nat) (h : n < 18446744073709551616) : parseMag (decDigits n) = .ok n := by
  unfold parseMag
  rw [if_neg (dec_dig n).2, pu_dec n h]
theorem atoi_dec (n : Nat) (h : n ≤ 9223372036854775807) : atoiAll (decDigits n) = .ok (n : Int) := by
  have hp := pm_dec n (by omega)
  have hd := dec_dig n
  cases hl : decDigits n with
  | nil => exact absurd hl hd.2
  | cons c r =>
    rw [hl] at hp hd
    have hc := digB_bd (List.all_eq_true.1 hd.1 c (by simp))
    unfold atoiAll
    simp only
    rw [if_neg (by omega), hp]
    simp only
    rw [if_neg (by omega), if_neg (by omega), if_neg (by omega)]
theorem idx_in (c : UInt8) : ∀ (l m : List UInt8), (l.all fun b => b != c) = true → indexByte (l ++ c :: m) c = (l.length : Int)
  | [], m, _ => by simp [indexByte]
  | b :: l, m, h => by
    simp only [List.all_cons, Bool.and_eq_true] at h
    have hb : (b == c) = false := by have := h.1; simpa using this
    show indexByte (b :: (l ++ c :: m)) c = _
    unfold indexByte
    rw [hb, idx_in c l m h.2, if_neg (by simp), if_neg (by simp <;> omega)]
    simp only [List.length_cons]
    omega
theorem idx_no (c : UInt8) : ∀ (l : List UInt8), (l.all fun b => b != c) = true → indexByte l c = -1
  | [], _ => rfl
  | b :: l, h => by
    simp only [List.all_cons, Bool.and_eq_true] at h
    have hb : (b == c) = false := by have := h.1; simpa using this
    unfold indexByte
    rw [hb, idx_no c l h.2]
    simp
def numV (l : List UInt8) : Nat := l.foldl (fun a c => 10 * a + (c.toNat - 48)) 0
theorem numV_snoc (l : List UInt8) (c : UInt8) : numV (l ++ [c]) = 10 * numV l + (c.toNat - 48) := by
  unfold numV
  rw [List.foldl_append]
  rfl
theorem numV_dec : ∀ (n : Nat), numV (decDigits n) = n := by
  intro n
  induction n using Nat.strongRecOn with
  | _ n ih =>
    by_cases h : n < 10
    · rw [decDigits_one h]
      have e : (UInt8.ofNat (48 + n)).toNat = 48 + n := by simp; omega
      simp only [numV, List.foldl_cons, List.foldl_nil, e]
      omega
    · have e : (UInt8.ofNat (48 + n % 10)).toNat = 48 + n % 10 := by simp; omega
      rw [dec_step (by omega), numV_snoc, ih (n / 10) (by omega), e]
      omega
theorem numV_lt : ∀ (k : Nat) (l : List UInt8), l.length = k → l.all digB = true → numV l < 10 ^ k := by
  intro k
  induction k with
  | zero =>
    intro l hl _
    rw [List.length_eq_zero_iff] at hl
    subst hl
    decide
  | succ k ih =>
    intro l hl hd
    obtain ⟨m, c, rfl⟩ : ∃ m c, l = m ++ [c] := ⟨l.dropLast, l.getLast (by rintro rfl; simp at hl), (List.dropLast_concat_getLast _).symm⟩
    rw [List.all_append] at hd
    simp only [Bool.and_eq_true, List.all_cons, List.all_nil, and_true] at hd
    have h1 := ih m (by simpa using hl) hd.1
    have h2 := digB_bd hd.2
    rw [numV_snoc, Nat.pow_succ]
    omega
theorem dec_len19 : ∀ (k n : Nat), n < 10 ^ (k + 1) → (decDigits n).length ≤ k + 1
  | 0, n, h => by rw [decDigits_one (by omega)]; simp
  | k + 1, n, h => by
    by_cases h0 : n < 10
    · rw [decDigits_one h0]; simp
    · rw [dec_step (by omega), List.length_append]
      have := dec_len19 k (n / 10) (by rw [Nat.pow_succ] at h; omega)
      simp
      omega
end Go.Proofs.YtcokobdffbhpeaaGreatDoor
