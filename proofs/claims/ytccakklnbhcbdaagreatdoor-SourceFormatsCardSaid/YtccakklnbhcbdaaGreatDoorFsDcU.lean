import Derived.Test.YtccakklnbhcbdaaGreatDoorFsDcT
import Derived.Test.YtccakklnbhcbdaaGreatDoorFQd
import Derived.Test.YtccakklnbhcbdaaGreatDoorFQb
import Derived.Test.YtccakklnbhcbdaaGreatDoorFA
import Derived.Deep.LoopGhost
import Derived.Deep.DeepCutAuto
import Derived.Deep.CutBlock
import Derived.Deep.RegionWith
set_option linter.unusedVariables false
namespace Go.Proofs.YtccakklnbhcbdaaGreatDoor
open Go.ChangeShapes Go.WideShapes Go.ChangeAt Go.RowKit
theorem ex_ex (S : ByteArray) (i n : Nat) : (S.extract i S.size).extract n (S.extract i S.size).size = S.extract (i + n) S.size := by
 apply by_inj
 rw [by_drop, by_drop, by_drop, List.drop_drop]
theorem nx4 {l : List UInt8} {N : Nat} (h : nextL l = (4, N)) : N = 1 := by
 rw [nextL_eq l _ rfl] at h
 repeat' split at h
 all_goals simp at h
 all_goals omega
theorem nx_bad {l : List UInt8} {K : Int} {N : Nat} (h : nextL l = (K, N)) (hk : K < 0) : K = -1 := by
 rw [nextL_eq l _ rfl] at h
 repeat' split at h
 all_goals simp at h
 all_goals omega
def FctR (S : ByteArray) (R : List Tk × (Int × Int) × Int) (g i st : Nat) (line : Int) (acc : List Tk) : Prop :=
 st ≤ i ∧ i ≤ S.size ∧ Fct R g (S.extract i S.size) line (((i - st + 1 : Nat) : Int)) acc
theorem own_base1 {w : World} {base : Nat} {e : TypeId} {size : Nat} {v : Value} {n : Nat} {xs : List Value} (h : w.ownsRow (base + 1) e size v n xs) : w.ownsRow base e size v n xs := by
 obtain ⟨h1, h2 | ⟨g, cap, cur, e1, e2, e3, e4⟩⟩ := h
 ·exact ⟨h1, .inl h2⟩
 ·exact ⟨h1, .inr ⟨g, cap, cur, e1, by omega, e3, e4⟩⟩
section
variable {S : ByteArray} {R : List Tk × (Int × Int) × Int} {g i st : Nat} {line : Int} {acc : List Tk} {K : Int} {N : Nat}
theorem rr_le (hf : FctR S R g i st line acc) (h : i < S.size) (hn : nextL ((by_ S).drop i) = (K, N)) : 1 ≤ N ∧ i + N ≤ S.size := by
 have := nx_le (s := S.extract i S.size) (K := K) (N := N) (by rw [ex_size]; omega) (by rw [by_drop]; exact hn)
 rw [ex_size] at this
 omega
theorem rr_nl (hf : FctR S R g i st line acc) (h : i < S.size) (hn : nextL ((by_ S).drop i) = (4, N)) : FctR S R (S.size - (i + N)) (i + N) (i + N) (line + 1) (acc ++ [⟨4, [], line, ((i - st + 1 : Nat) : Int)⟩]) := by
 have hb := rr_le hf h hn
 have e := st_nl (N := N) hf.2.2 (by rw [ex_size]; omega) (by rw [by_drop]; exact hn)
 have n1 := nx4 hn
 subst n1
 rw [ex_ex, ex_size] at e
 refine ⟨Nat.le_refl _, by omega, ?_⟩
 rw [show (i + 1 - (i + 1) + 1 : Nat) = 1 from by omega, show S.size - (i + 1) = S.size - i - 1 from by omega]
 exact e
theorem rr_blank (hf : FctR S R g i st line acc) (h : i < S.size) (hn : nextL ((by_ S).drop i) = (0, N)) : FctR S R (S.size - (i + N)) (i + N) st line acc := by
 have hb := rr_le hf h hn
 have e := st_blank (N := N) hf.2.2 (by rw [ex_size]; omega) (by rw [by_drop]; exact hn)
 rw [ex_ex, ex_size] at e
 have h0 := hf.1
 refine ⟨by omega, by omega, ?_⟩
 rw [show ((i + N - st + 1 : Nat) : Int) = ((i - st + 1 : Nat) : Int) + (N : Int) from by omega, show S.size - (i + N) = S.size - i - N from by omega]
 exact e
theorem rr_tok (hf : FctR S R g i st line acc) (h : i < S.size) (hn : nextL ((by_ S).drop i) = (K, N)) (k0 : 0 ≤ K) (k4 : K ≠ 4) (kz : K ≠ 0) : FctR S R (S.size - (i + N)) (i + N) st line (acc ++ [⟨K, ((by_ S).drop i).take N, line, ((i - st + 1 : Nat) : Int)⟩]) := by
 have hb := rr_le hf h hn
 have e := st_tok (N := N) hf.2.2 (by rw [ex_size]; omega) (by rw [by_drop]; exact hn) k0 k4 kz
 rw [ex_ex, ex_size, by_drop] at e
 have h0 := hf.1
 refine ⟨by omega, by omega, ?_⟩
 rw [show ((i + N - st + 1 : Nat) : Int) = ((i - st + 1 : Nat) : Int) + (N : Int) from by omega, show S.size - (i + N) = S.size - i - N from by omega]
 exact e
theorem rr_bad (hf : FctR S R g i st line acc) (h : i < S.size) (hn : nextL ((by_ S).drop i) = (K, N)) (k0 : K < 0) : R = ([], (line, ((i - st + 1 : Nat) : Int)), 7) := by
 have := nx_bad hn k0
 subst this
 exact st_bad (N := N) hf.2.2 (by rw [ex_size]; omega) (by rw [by_drop]; exact hn)
theorem rr_stop (hf : FctR S R g i st line acc) (h : ¬ i < S.size) : R = (acc ++ [⟨5, [], line, ((i - st + 1 : Nat) : Int)⟩], (0, 0), 0) ∧ i = S.size := by
 have h1 := hf.2.1
 exact ⟨st_stop hf.2.2 (by rw [ex_size]; omega), by omega⟩
theorem ex_mid (S : ByteArray) (i n : Nat) : by_ (S.extract i (i + n)) = ((by_ S).drop i).take n := by
 have e := Lib.extract_data S i (i + n)
 rw [show i + n - i = n from by omega] at e
 exact e
end
set_option maxRecDepth 100000 in
set_option maxHeartbeats 4000000 in
theorem reftokens_core (S : ByteArray) (hS : S.size ≤ 262144) (R : List Tk × (Int × Int) × Int) (hR : Hid (R = tokF S.size (by_ S) 1 1 [])) (w : World) :
  Calls Tryz.prog 60 #[.string S] w fun e w' => tkR R w.heap.size e w' ∧ Below w.heap.size w w' := by
 obtain ⟨i0, hi, hz0, hz1, hz2⟩ := info_parts infoTok
 have hS' : ¬ (262144 : Int) < (S.size : Int) := by omega
 go_enter Tryz.func60, Tryz.ntmps60
 go_wp2_with fail
 clear hS'
 go_loopg [5, 6, 7, 8] S.size (fun g v5 v6 v7 v8 wr => ∃ (i st : Nat) (line : Int) (acc : List Tk), v6 = .int .i64 line ∧ v7 = .int .i64 (st : Int) ∧ v8 = .int .i64 (i : Int) ∧ Hid (FctR S R g i st line acc) ∧
   At wr w.heap.size 43 #[.int .i64 0, .int .i64 0] ∧ wr.ownsRow (w.heap.size + 1) 107 4 v5 (acc).length (tksC acc) ∧ Below w.heap.size w wr)
 case atStart => exact ⟨0, 0, 1, [], rfl, rfl, rfl, Lib.hid ⟨Nat.le_refl _, Nat.zero_le _, by rw [ex_size]; rfl, by rw [hR.out, ex_size, by_drop]; rfl, by rw [ex_size]; simp; omega, by omega, by rw [ex_size]; omega, by decide, by rw [ex_size]; simp; omega⟩, by (repeat (first | (with_reducible apply At.new'; (focus (simp; done))) | with_reducible apply At.al | with_reducible apply At.drw | with_reducible apply At.dr)), World.ownsRow_nil _ _ _ _, (by repeat (first | with_reducible assumption | with_reducible exact Below.refl _ _ | with_reducible refine below_al ?_ _ | with_reducible refine below_drew ?_ | with_reducible refine below_drewN ?_ _ | with_reducible refine below_set ?_ (by dsimp only; omega) _))⟩
 case round =>
  clear hR
  obtain ⟨i, st, line, acc, rfl, rfl, rfl, hr, kz, hown, HB⟩ := hrel
  have hsi : st ≤ i ∧ i ≤ S.size := ⟨hr.out.1, hr.out.2.1⟩
  obtain ⟨col, hcol⟩ : ∃ col : Int, ((i - st + 1 : Nat) : Int) = col := ⟨_, rfl⟩
  have Lz := kz.lt
  by_cases h0 : i < S.size
  ·rcases hKN : nextL ((by_ S).drop i) with ⟨K, N⟩
   have hN := rr_le hr.out h0 hKN
   have HX : Hid (∀ w, Calls Tryz.prog 101 #[.string S, .int .i64 (i : Int)] w fun e w' => e = .returned (nxv K (i + N)) ∧ Below w.heap.size w w') := Lib.hid (fun w => by have := refnext_any S i h0 (by omega) w; rw [hKN] at this; exact this)
   obtain ⟨E, hE⟩ : ∃ E, i + N = E := ⟨_, rfl⟩
   rw [hE] at HX
   have ec : IntKind.i64.wrap (IntKind.i64.wrap ((i : Int) - (st : Int)) + 1) = col := by rw [wrap_in (n := (i : Int) - (st : Int)) (by omega), wrap_in (by omega)]; omega
   have ec2 : IntKind.i64.wrap ((i : Int) - (st : Int) + 1) = col := by rw [wrap_in (by omega)]; omega
   have el : IntKind.i64.wrap (line + 1) = line + 1 := wrap_in (by have := hr.out; unfold FctR Fct at this; omega)
   replace hKN := Lib.hid hKN
   go_wp2_with fail
   refine (HX.out _).mono ?_
   rintro e w1 ⟨rfl, hb1⟩
   replace kz := At.bel kz hb1
   replace hown := own_bel hown hb1
   replace HB := below_then HB hb1
   clear hb1 Lz
   have Lz := kz.lt
   go_upto_region 9 with fail
   generalize hWW : World.alloc _ _ = WW
   have ka : At WW w1.heap.size 43 #[.int .i64 line, .int .i64 col] := by rw [← hWW]; exact At.new' rfl
   replace kz : At WW w.heap.size 43 #[.int .i64 0, .int .i64 0] := by rw [← hWW]; exact At.al kz _
   replace hown := hown.alloc (.cells #[.int .i64 line, .int .i64 col] 43)
   rw [hWW] at hown
   replace HB : Below w.heap.size w WW := by rw [← hWW]; exact below_al HB _
   clear hWW Lz
   have Lz := kz.lt
   have La := ka.lt
   obtain ⟨ka0, ka1, ka2, ka3⟩ := ka.two
   by_cases k0 : K < 0
   ·have hb := Lib.hid (by have := rr_bad hr.out h0 hKN.out k0; rw [hcol] at this; exact this)
    obtain ⟨kz0, kz1, kz2, kz3⟩ := kz.two
    go_upto_region 10 with fail
    go_region
    go_wp2_with fail
    generalize hWW : World.drew _ = W2
    have kz' : At W2 w.heap.size 43 #[.int .i64 line, .int .i64 col] := by rw [← hWW]; exact At.drw (At.put1 (At.put0 kz _) _)
    have HB' : Below w.heap.size w W2 := by rw [← hWW]; exact below_drew (below_set (below_set HB (Nat.le_refl _) _) (Nat.le_refl _) _)
    clear hWW kz0 kz1 kz2 kz3 kz HB ka0 ka1 ka2 ka3 ka La Lz hown
    have k0 := kz'.c0
    have k1 := kz'.c1
    exact bodyPost_ret (v := .tuple #[.slice none 0 0, .agg #[.int .i64 line, .int .i64 col], .int .i64 7]) (by simp [results, Tryz.results60, go_sem, k0, k1]) rfl ⟨⟨.slice none 0 0, by rw [hb.out], by rw [hb.out]; exact World.ownsRow_nil _ _ _ _⟩, HB'⟩
   have hEb : E ≤ S.size := by omega
   by_cases k4 : K = 4
   ·subst k4
    have hF := Lib.hid (by have := rr_nl hr.out h0 hKN.out; rw [hcol, hE] at this; exact this)
    go_upto_region 13 with (at_builtin; refine wpList_append_own _ rfl _ _ 103 rfl (w.heap.size + 1) 107 i0 (.agg #[.int .i64 0, .string ByteArray.empty, .int .i64 0, .int .i64 0]) 4 40 Tryz.underlying103 hi hz0 hz1 hz2 rfl (by decide) _ _ _ rfl (World.ownsRow.alloc hown _) ⟨WW.heap.size, 0, none⟩ 1 1 [.int .i64 4, .string ⟨#[]⟩, .int .i64 line, .int .i64 col] rfl rfl (four_cells rfl _ _ _ _) (four_one _ _ _ _) (by have := hr.out; unfold FctR Fct at this; unfold maxLen; omega) (by have := hr.out; unfold FctR Fct at this; omega) (by simp; omega) ?_)
    intro v' w2 hown' hgrow _
    replace kz := At.grown (At.al kz _) hgrow (own_ne hown (by omega))
    replace HB := (below_al HB _).grown hgrow (by have := HB.size; simp; omega) (fun j hj => by have := (hown.lt j hj).1; omega)
    rw [show [Value.int .i64 4, .string ⟨#[]⟩, .int .i64 line, .int .i64 col] = tkC ⟨4, [], line, col⟩ from rfl, ← tksC_add] at hown'
    clear hgrow hown ka0 ka1 ka2 ka3 ka La Lz
    go_wp2_with fail
    go_roundg (S.size - E)
    case measure => have := hr.out.2.2.1; rw [ex_size] at this; omega
    case rel => exact ⟨E, E, line + 1, acc ++ [⟨4, [], line, col⟩], rfl, rfl, rfl, hF, kz, by rw [len_add]; exact hown', HB⟩
   have b4 : (K == 4) = false := by simpa using k4
   by_cases kz0 : K = 0
   ·subst kz0
    have hF := Lib.hid (by have := rr_blank hr.out h0 hKN.out; rw [hE] at this; exact this)
    clear ka0 ka1 ka2 ka3 ka La Lz
    go_wp2_with fail
    go_roundg (S.size - E)
    case measure => have := hr.out.2.2.1; rw [ex_size] at this; omega
    case rel => exact ⟨E, st, line, acc, rfl, rfl, rfl, hF, kz, hown, HB⟩
   ·have kp : 0 < K := by omega
    have hF := Lib.hid (by have := rr_tok hr.out h0 hKN.out (by omega) k4 kz0; rw [hcol, hE] at this; exact this)
    have q1 : (0 : Int) ≤ (i : Int) := by omega
    have q2 : (i : Int) ≤ (E : Int) := by omega
    have q3 : (E : Int) ≤ (S.size : Int) := by omega
    go_upto_region 16 with fail
    clear ka0 ka1 ka2 ka3 La Lz
    refine wp_only ?_
    refine wp_region_grow0 8 (by kernel_rfl) (by kernel_rfl) only_panic ?_
    apply Exists.intro
    refine And.intro (fun W' hW' => ?_) ?_
    focus
     have Ka := At.bel ka hW'
     have Ka0 := cell_regrown Ka.c0
     have Ka1 := cell_regrown Ka.c1
     simp only [List.take_succ_cons, List.take_zero]
     repeat (go_big_quiet_step (fail))
     exact wpQuiet_nil rfl
    intro w3 hb3
    replace kz := At.bel kz hb3
    replace hown := own_bel hown hb3
    replace HB := below_then HB hb3
    clear hb3 ka
    simp only [List.drop_succ_cons, List.drop_zero]
    have Lz := kz.lt
    go_wp2_with (at_builtin; refine wpList_append_own _ rfl _ _ 103 rfl (w.heap.size + 1) 107 i0 (.agg #[.int .i64 0, .string ByteArray.empty, .int .i64 0, .int .i64 0]) 4 40 Tryz.underlying103 hi hz0 hz1 hz2 rfl (by decide) _ _ _ rfl (World.ownsRow.alloc hown _) ⟨w3.heap.size, 0, none⟩ 1 1 [.int .i64 K, .string (S.extract i E), .int .i64 line, .int .i64 col] rfl rfl (four_cells rfl _ _ _ _) (four_one _ _ _ _) (by have := hr.out; unfold FctR Fct at this; unfold maxLen; omega) (by have := hr.out; unfold FctR Fct at this; omega) (by simp; omega) ?_)
    intro v' w2 hown' hgrow _
    replace kz := At.grown (At.al kz _) hgrow (own_ne hown (by omega))
    replace HB := (below_al HB _).grown hgrow (by have := HB.size; simp; omega) (fun j hj => by have := (hown.lt j hj).1; omega)
    have et : [Value.int .i64 K, .string (S.extract i E), .int .i64 line, .int .i64 col] = tkC ⟨K, ((by_ S).drop i).take N, line, col⟩ := by
     show _ = [Value.int .i64 K, .string ⟨(((by_ S).drop i).take N).toArray⟩, .int .i64 line, .int .i64 col]
     rw [← ex_mid, hE, by_mk]
    rw [et, ← tksC_add] at hown'
    clear et hgrow hown Lz
    go_wp2_with fail
    go_roundg (S.size - E)
    case measure => have := hr.out.2.2.1; rw [ex_size] at this; omega
    case rel => exact ⟨E, st, line, acc ++ [⟨K, ((by_ S).drop i).take N, line, col⟩], rfl, rfl, rfl, hF, kz, by rw [len_add]; exact hown', HB⟩
  ·have hst := rr_stop hr.out h0
   rw [hcol] at hst
   have hF := Lib.hid hst.1
   have e0 : i = S.size := hst.2
   have ec2 : IntKind.i64.wrap ((S.size : Int) - (st : Int) + 1) = col := by rw [wrap_in (by omega)]; omega
   have ec : IntKind.i64.wrap ((S.size : Int) - (st : Int)) = (S.size : Int) - (st : Int) := wrap_in (by omega)
   have hil : ¬ (i : Int) < (S.size : Int) := by omega
   clear hst
   replace e0 := Lib.hid e0
   replace hcol := Lib.hid hcol
   go_wp2_with (at_builtin; refine wpList_append_own _ rfl _ _ 103 rfl (w.heap.size + 1) 107 i0 (.agg #[.int .i64 0, .string ByteArray.empty, .int .i64 0, .int .i64 0]) 4 40 Tryz.underlying103 hi hz0 hz1 hz2 rfl (by decide) _ _ _ rfl (World.ownsRow.alloc hown _) ⟨wr.heap.size, 0, none⟩ 1 1 [.int .i64 5, .string ⟨#[]⟩, .int .i64 line, .int .i64 col] rfl rfl (four_cells rfl _ _ _ _) (four_one _ _ _ _) (by have := hr.out; unfold FctR Fct at this; unfold maxLen; omega) (by have := hr.out; unfold FctR Fct at this; omega) (by simp; omega) ?_)
   intro v' w2 hown' hgrow _
   replace kz := At.grown (At.al kz _) hgrow (own_ne hown (by omega))
   replace HB := (below_al HB _).grown hgrow (by have := HB.size; simp; omega) (fun j hj => by have := (hown.lt j hj).1; omega)
   rw [show [Value.int .i64 5, .string ⟨#[]⟩, .int .i64 line, .int .i64 col] = tkC ⟨5, [], line, col⟩ from rfl, ← tksC_add] at hown'
   clear hgrow hown Lz
   have Lz := kz.lt
   obtain ⟨kz0, kz1, kz2, kz3⟩ := kz.two
   go_wp2_with fail
   generalize hWW : World.setCell _ _ _ = WW
   have kz' : At WW w.heap.size 43 #[.int .i64 0, .int .i64 0] := by rw [← hWW]; exact At.put1 (At.put0 kz _) _
   have hown2 : WW.ownsRow (w.heap.size + 1) 107 4 v' (acc.length + 1) (tksC (acc ++ [⟨5, [], line, col⟩])) := by rw [← hWW]; exact own_set (own_set hown' (by dsimp only; omega) _) (by dsimp only; omega) _
   have HB' : Below w.heap.size w WW := by rw [← hWW]; exact below_set (below_set HB (Nat.le_refl _) _) (Nat.le_refl _) _
   clear hWW kz0 kz1 kz2 kz3 kz HB hown'
   have k0 := kz'.c0
   have k1 := kz'.c1
   exact bodyPost_ret (v := .tuple #[v', .agg #[.int .i64 0, .int .i64 0], .int .i64 0]) (by simp [results, Tryz.results60, go_sem, k0, k1]) rfl ⟨⟨v', by rw [hF.out], by rw [hF.out, len_add]; exact own_base1 hown2⟩, HB'⟩
end Go.Proofs.YtccakklnbhcbdaaGreatDoor
