/- lorry.Least. Schedules of any names; yardLarge; slices.Contains at bools. -/
import Derived.Test.YtjlkbmaigcgnbaaDoorBJ34
import Derived.Test.YtjlkbmaigcgnbaaDoorBJ31
import Derived.Test.YtjlkbmaigcgnbaaDoorBJ19
import Derived.Test.YtjlkbmaigcgnbaaDoorBJ18
import Derived.Laws.OwnMore
set_option linter.unusedVariables false
namespace Go.Proofs.YtjlkbmaigcgnbaaDoor
open Go.ChangeShapes Go.WideShapes Go.ChangeAt Go.RowKit
theorem visitV_prun {f : Nat → Int} {most : Int} {L : List (List Nat)} {ms : List Int} {best : Fnd} (h : prunB L best = true) : ∀ r : List Nat, visitV f most r L ms best = best
  | [] => by unfold visitV; rw [if_pos h]
  | i :: r => by unfold visitV; rw [if_pos h]
theorem visit_any (l : List Bun) (a : Option Addr) (c : Nat) (o : List Nat) (oa : Option Addr) (oc n : Nat) (most : Int) (S : Nat) (w0 : World) (hn : l.length = n) (hn2 : n ≤ 900) (hlc : n ≤ c) (hcc : c ≤ 9223372036854775807) (hon : o.length = n) (hoc : n ≤ oc ∧ oc ≤ 9223372036854775807) (hfit : Hid (∀ x ∈ o, x < n ∧ 0 ≤ massN l x ∧ massN l x ≤ most)) (hmost : 1 ≤ most ∧ most ≤ 1099511627776) (hrow : Hid (RowAt encB 4 S w0 a l)) (hord : Hid (RowAt encZ 1 S w0 oa (castZ o))) : ∀ (r : List Nat) (k : Nat), o.drop k = r → k ≤ n → ∀ (L : List (List Nat)) (ms : List Int) (vo vm : Value) (cs : List Value) (best : Fnd) (bv : Value) (w : World), ObjS w S (.slice a n c) (.slice oa n oc) most bv best → LdX S w L ms vo vm cs → L.length ≤ k → (∀ ld ∈ L, ld.length ≤ k) → (∀ x ∈ ms, 0 ≤ x ∧ x ≤ most) → Below S w0 w → (r = [] → 0 < L.length) → Calls Tryd.prog 32 #[.pointer (some ⟨S, 0, none⟩), .int .i64 (k : Int), vo, vm] w fun e w' => e = .returned (.tuple #[]) ∧ VisE S (.slice a n c) (.slice oa n oc) most L ms vo vm cs w (visitV (massN l) most r L ms best) w'
  | [], k, hr, hkn, L, ms, vo, vm, cs, best, bv, w, hA, hL, hLk, hls, hms, hw, h0 => by
    cases hp : prunB L best
    · have hke : k = n := by
        have := List.drop_eq_nil_iff.1 hr
        omega
      subst hke
      unfold visitV
      rw [if_neg (by rw [hp]; decide)]
      exact visL_any S _ oa k oc most L ms vo vm cs best bv w hA hL hp (h0 rfl) (by omega) (fun ld hld => by have := hls ld hld; omega)
    · rw [visitV_prun hp]
      exact visP_any S k _ oa n oc most L ms vo vm cs best bv w hA hL hp
  | i :: r', k, hr, hkn, L, ms, vo, vm, cs, best, bv, w, hA, hL, hLk, hls, hms, hw, h0 => by
    cases hp : prunB L best
    · have hk : k < o.length := by
        rcases Nat.lt_or_ge k o.length with q | q
        · exact q
        · rw [List.drop_eq_nil_of_le q] at hr; cases hr
      rw [List.drop_eq_getElem_cons hk] at hr
      injection hr with h1 h2
      exact visC_any l a c o oa oc n most S w0 hn hn2 hlc hcc hon hoc hfit hmost hrow hord k i r' hk h1 (Lib.hid (fun L ms vo vm cs best bv w q1 q2 q3 q4 q5 q6 q7 => visit_any l a c o oa oc n most S w0 hn hn2 hlc hcc hon hoc hfit hmost hrow hord r' (k + 1) h2 (by omega) L ms vo vm cs best bv w q1 q2 q3 q4 q5 q6 (fun _ => q7))) L ms vo vm cs best bv w hA hL hLk hls hms hw hp
    · rw [visitV_prun hp]
      exact visP_any S k _ oa n oc most L ms vo vm cs best bv w hA hL hp
def LeaE (l : List Bun) (most : Int) (e : Ending) : Prop := ∃ (z : Nat) (v : Value), e = .returned (.tuple #[.int .i64 (z : Int), v, .int .i64 0]) ∧ (l.length = 0 → z = 0) ∧ (0 < l.length → ∃ b : List (List Nat), leastV (massN l) most (ordN (massN l) l.length) = some b ∧ z = b.length)
set_option maxRecDepth 100000 in
set_option maxHeartbeats 1000000 in
theorem least_any (l : List Bun) (a : Option Addr) (c : Nat) (most : Int) (hl : l.length ≤ c) (hc : c ≤ 9223372036854775807) (hn : l.length ≤ 12) (hs : Hid (∀ x ∈ l, x.tag.size ≤ 60 ∧ x.mark.size ≤ 60)) (w : World) (hr : Hid (RowAt encB 4 w.heap.size w a l)) (hg : givE l most = 0) :
    Calls Tryd.prog 14 #[.slice a l.length c, .int .i64 most] w fun e w' => LeaE l most e ∧ Below w.heap.size w w' := by
  have HG := Lib.hid (lgiven_any l a c most hl hc hs w hr)
  rw [hg] at HG
  have hk := givK hg
  have HH := Lib.hid (fun (W : World) (hW : Below w.heap.size w W) => heaviest_any l a c hl (by omega) (Lib.hid hk.mass) W ((hr.out.bel (Nat.le_refl _) hW).mono hW.size))
  have hpos := hk.pos
  have hE0 : Hid (l.length = 0 → LeaE l most (.returned (.tuple #[.int .i64 0, .slice none 0 0, .int .i64 0]))) := Lib.hid fun h => ⟨0, _, rfl, fun _ => rfl, fun q => by omega⟩
  have hE1 : Hid (∀ (b : List (List Nat)) (v : Value), 0 < l.length → leastV (massN l) most (ordN (massN l) l.length) = some b → LeaE l most (.returned (.tuple #[.int .i64 (b.length : Int), v, .int .i64 0]))) := Lib.hid fun b v h1 h3 => ⟨b.length, v, rfl, fun q => by omega, fun _ => ⟨b, h3, rfl⟩⟩
  have hsome := Lib.hid (fun (o : List Nat) => visitV_some (f := massN l) (most := most) o [] [] none)
  have HV := Lib.hid (fun (o : List Nat) (oa : Option Addr) (oc n S : Nat) (w0 : World) (hn' : l.length = n) (hpm : o.Perm (List.range n)) (hoc : n ≤ oc ∧ oc ≤ 9223372036854775807) (h1 : 0 < n) (hrow : RowAt encB 4 S w0 a l) (hord : RowAt encZ 1 S w0 oa (castZ o)) (hA : ObjS w0 S (.slice a n c) (.slice oa n oc) most (.slice none 0 0) none) => visit_any l a c o oa oc n most S w0 hn' (by omega) (by omega) hc (by rw [hpm.length_eq, List.length_range]) hoc (Lib.hid fun x hx => by
      have h2 : x < n := by simpa using hpm.mem_iff.1 hx
      have := hk.fit x (by omega)
      exact ⟨h2, this.1, this.2⟩) hpos (Lib.hid hrow) (Lib.hid hord) (o.drop 0) 0 rfl (Nat.zero_le _) [] [] (.slice none 0 0) (.slice none 0 0) [] none (.slice none 0 0) w0 hA ⟨World.ownsRow_nil _ _ _ _, World.ownsRow_nil _ _ _ _, rfl, rfl, fun j h => absurd h (by simp), fun x h => by (cases h), fun j h => absurd h (by simp), fun j h => absurd h (by simp)⟩ (Nat.le_refl _) (fun ld h => absurd h (by simp)) (fun x h => absurd h (by simp)) (Below.refl _ _) (fun h => by
      have : o.length = n := by rw [hpm.length_eq, List.length_range]
      rw [List.drop_zero] at h
      rw [h] at this
      simp at this
      omega))
  obtain ⟨n, hn'⟩ : ∃ n, l.length = n := ⟨_, rfl⟩
  rw [hn'] at HG HH hl hn ⊢
  replace hn' := Lib.hid hn'
  clear hk hg
  go_enter Tryd.func14, Tryd.ntmps14
  go_wp2_with fail
  refine HG.out.mono ?_
  rintro e w1 ⟨rfl, HB⟩
  clear HG
  by_cases h0 : n = 0
  · have hE := Lib.hid (hE0.out (by rw [hn'.out]; exact h0))
    subst h0
    go_wp2_with fail
    exact bodyPost_ret (v := .tuple #[.int .i64 0, .slice none 0 0, .int .i64 0]) (by simp [results, Tryd.results14, go_sem]) rfl ⟨hE.out, HB⟩
  have g0 : ((n : Int) == 0) = false := by simp; omega
  have g1 : decide ((12 : Int) < (n : Int)) = false := decide_eq_false (by omega)
  have HHk := Lib.hid (HH.out _ HB)
  clear HH hE0
  go_wp2_with fail
  refine HHk.out.mono ?_
  rintro e w2 ⟨⟨hv, rfl, ho⟩, hb⟩
  have hpm := ordN_perm (massN l) n
  obtain ⟨D, hD⟩ : ∃ D, ordN (massN l) n = D := ⟨_, rfl⟩
  rw [hD] at ho hpm
  replace hD := Lib.hid hD
  have HB2 := Lib.hid (below_then HB hb)
  rw [natV_cast] at ho
  have hDl : (castZ D).length = n := by unfold castZ; rw [List.length_map, hpm.length_eq, List.length_range]
  obtain ⟨oa, oc, rfl, q1, q2, q3⟩ := own_isI (l := castZ D) (by rw [hDl]; exact ho)
  rw [hDl] at q1 ⊢
  replace q3 := Lib.hid q3
  replace hpm := Lib.hid hpm
  clear ho hb hDl HHk HB
  go_wp2_with fail
  generalize hWW : World.alloc w2 _ = W3
  have kS : At W3 w2.heap.size 78 #[.slice a n c, .slice oa n oc, .int .i64 most, .slice none 0 0] := by rw [← hWW]; exact At.new' rfl
  have hb3 : Below w2.heap.size w2 W3 := by rw [← hWW]; exact below_al (Below.refl _ _) _
  clear hWW
  have HVk := Lib.hid (HV.out D oa oc n w2.heap.size W3 hn'.out hpm.out ⟨q1, q2⟩ (by omega) ((hr.out.bel (Nat.le_refl _) (below_then HB2.out hb3)).mono HB2.out.size) (q3.out.bel (Nat.le_refl _) hb3) ⟨kS, rfl⟩)
  obtain ⟨S, hS⟩ : ∃ S, w2.heap.size = S := ⟨_, rfl⟩
  have hSw : Hid (w.heap.size ≤ S) := Lib.hid (by rw [← hS]; exact HB2.out.size)
  have HB3 := Lib.hid (below_then HB2.out hb3)
  rw [hS] at HVk ⊢
  clear kS hb3 hS HV HB2 q3
  refine HVk.out.mono ?_
  rintro e w4 ⟨rfl, bv, cs', ⟨hA, hbv⟩, -, hV, -⟩
  rw [List.drop_zero] at hbv
  obtain ⟨b, hb⟩ := hsome.out D
  rw [hb] at hbv
  obtain ⟨g, cb, rfl, hbl⟩ := hbv
  have hE := Lib.hid (hE1.out b (.slice (some ⟨g, 0, none⟩) b.length cb) (by rw [hn'.out]; omega) (by rw [hn'.out, hD.out]; exact hb))
  have x3 : w4.cell? ⟨S, 3, none⟩ = some (.slice (some ⟨g, 0, none⟩) b.length cb) := hA.c 3
  have HB4 : Hid (Below w.heap.size w w4) := Lib.hid (HB3.out.trans (hV.bel.mono hSw.out))
  obtain ⟨z, hz⟩ : ∃ z, b.length = z := ⟨_, rfl⟩
  rw [hz] at x3 hE hbl
  have K0 := cell_regrown x3
  clear hV hA hb hz HVk HB3 hE1 hsome hpm
  go_upto_region 10 with fail
  refine wp_region_quiet_below (by kernel_rfl) (by kernel_rfl) ?_
  repeat (go_big_quiet_step (fail))
  refine wpQuiet_nil ?_
  intro v1 hb'
  have hb := below_of_regrown hb'
  have HB5 := Lib.hid (below_then HB4.out hb)
  clear hb' hb K0 x3 HB4
  go_wp2_with fail
  exact bodyPost_ret (v := .tuple #[.int .i64 (z : Int), .slice (some ⟨g, 0, none⟩) z cb, .int .i64 0]) (by simp [results, Tryd.results14, go_sem]) rfl ⟨hE.out, HB5.out⟩
end Go.Proofs.YtjlkbmaigcgnbaaDoor
set_option linter.unusedVariables false
namespace Go.Proofs.YtjlkbmaigcgnbaaDoor
open Go.ChangeShapes Go.WideShapes Go.ChangeAt Go.RowKit
structure BarsW (w : World) (l : List Br) (ds : List Value) (a : Option Addr) (c : Nat) : Prop where
  cap : l.length ≤ c
  cap2 : c ≤ 9223372036854775807
  row : RowAt encQ 5 w.heap.size w a (l.zip ds)
  n : ds.length = l.length
  dims : ∀ (k : Nat) (h1 : k < l.length) (h2 : k < ds.length), IsI l[k].dims ds[k] w
theorem BarsW.up {w w' : World} {l : List Br} {ds : List Value} {a : Option Addr} {c : Nat} (h : BarsW w l ds a c) (hb : Below w.heap.size w w') : BarsW w' l ds a c :=
  ⟨h.cap, h.cap2, (h.row.bel (Nat.le_refl _) hb).mono hb.size, h.n, fun k h1 h2 => (h.dims k h1 h2).up hb⟩
theorem BarsW.zlen {w : World} {l : List Br} {ds : List Value} {a : Option Addr} {c : Nat} (h : BarsW w l ds a c) : (l.zip ds).length = l.length := by
  rw [List.length_zip, h.n, Nat.min_self]
theorem BarsW.toV {w : World} {l : List Br} {ds : List Value} {a : Option Addr} {c : Nat} (h : BarsW w l ds a c) (hm : ∀ b ∈ l, b.mark.size ≤ 60) : BarsV w l ds a c :=
  ⟨h.cap, h.cap2, h.row, h.n, h.dims, fun b hb => by have := hm b hb; omega⟩
set_option maxRecDepth 100000 in
set_option maxHeartbeats 1000000 in
theorem small14W_any (l : List Br) (ds : List Value) (a : Option Addr) (cc most : Nat) (w : World) (hm : most ≤ 1000) (h : BarsW w l ds a cc) : Calls Tryd.prog 18 #[.slice a l.length cc, .int .i64 (most : Int)] w fun e w' => e = .returned (.bool (smlB l most)) ∧ w = w' := by
  obtain ⟨R, hR⟩ : ∃ R, smlB l most = R := ⟨_, rfl⟩
  rw [hR]
  obtain ⟨n, hn⟩ : ∃ n, l.length = n := ⟨_, rfl⟩
  unfold smlB at hR
  rw [hn] at hR ⊢
  have hrow := Lib.hid h.row
  have hzl := Lib.hid h.zlen
  have hdn := Lib.hid h.n
  have hds := Lib.hid (fun (k : Nat) (h1 : k < l.length) (h2 : k < ds.length) => show ∃ da dc, ds[k] = .slice da l[k].dims.length dc by obtain ⟨da, dc, e, _⟩ := h.dims k h1 h2; exact ⟨da, dc, e⟩)
  replace hn := Lib.hid hn
  clear h
  by_cases c0 : most < n
  · have hE : Hid (R = false) := Lib.hid (by rw [← hR, decide_eq_false (by omega)]; rfl)
    clear hR
    go_enter Tryd.func18, Tryd.ntmps18
    go_wp2_with fail
    go_ret
    exact ⟨by rw [hE.out]; rfl, rfl⟩
  have hnm : n ≤ 1000 := by omega
  rw [decide_eq_true (show n ≤ most by omega), Bool.true_and] at hR
  replace hR := Lib.hid hR
  go_enter Tryd.func18, Tryd.ntmps18
  go_wp2_with fail
  go_loopg [5] n (fun g i wr => ∃ k : Nat, k ≤ n ∧ i = .int .i64 (k : Int) ∧ Hid (g = n - k ∧ ∀ (j : Nat) (hj : j < l.length), j < k → (decide (l[j].mark.size ≤ 60) && decide (l[j].dims.length ≤ 12)) = true) ∧ w = wr)
  case atStart => exact ⟨0, Nat.zero_le _, rfl, Lib.hid ⟨rfl, fun j hj h => absurd h (by omega)⟩, rfl⟩
  case round =>
    obtain ⟨k, hk, rfl, hr, rfl⟩ := hrel
    by_cases hlt : k < n
    · have hkl : Hid (k < l.length) := Lib.hid (by rw [hn.out]; exact hlt)
      have hkd : Hid (k < ds.length) := Lib.hid (by rw [hdn.out]; exact hkl.out)
      have hkz : Hid (k < (l.zip ds).length) := Lib.hid (by rw [hzl.out]; exact hkl.out)
      obtain ⟨bb, off, rfl, c0, c1, c2, c3, c4⟩ := hrow.out.bar k hkz.out
      simp only [List.getElem_zip] at c0 c1 c2 c3 c4
      obtain ⟨da, dc, hdv⟩ := hds.out k hkl.out hkd.out
      rw [hdv] at c4
      obtain ⟨x, hx⟩ : ∃ x, l[k]'hkl.out = x := ⟨_, rfl⟩
      rw [hx] at c0 c4
      replace hx := Lib.hid hx
      obtain ⟨mk, sz, ct, c, dd⟩ := x
      dsimp only at c0 c4
      obtain ⟨dn, hdn2⟩ : ∃ dn, dd.length = dn := ⟨_, rfl⟩
      rw [hdn2] at c4
      replace hdn2 := Lib.hid hdn2
      clear c1 c2 c3 hdv
      by_cases q1 : 60 < mk.size
      · have hE : Hid (R = false) := Lib.hid (by
          rw [← hR.out]
          refine allB_not hkl.out ?_
          rw [hx.out]
          simp
          omega)
        go_wp2_with fail
        go_ret
        exact ⟨by rw [hE.out]; rfl, rfl⟩
      by_cases q2 : 12 < dn
      · have hE : Hid (R = false) := Lib.hid (by
          rw [← hR.out]
          refine allB_not hkl.out ?_
          rw [hx.out]
          have := hdn2.out
          simp
          omega)
        go_wp2_with fail
        go_ret
        exact ⟨by rw [hE.out]; rfl, rfl⟩
      go_wp2_with fail
      go_roundg (n - (k + 1))
      case measure => have := hr.out.1; omega
      case rel =>
        refine ⟨k + 1, by omega, by go_num, Lib.hid ⟨rfl, fun j hj hjk => ?_⟩, rfl⟩
        by_cases e : j = k
        · subst e
          rw [hx.out]
          have := hdn2.out
          simp
          omega
        · exact hr.out.2 j hj (by omega)
    · have hE : Hid (R = true) := Lib.hid (by
        have h1 := hn.out
        rw [← hR.out]
        refine List.all_eq_true.2 fun x hx => ?_
        obtain ⟨j, hj, rfl⟩ := List.getElem_of_mem hx
        exact hr.out.2 j hj (by omega))
      go_wp2_with fail
      go_ret
      exact ⟨by rw [hE.out]; rfl, rfl⟩
theorem smlB_yes {l : List Br} (h : smlB l 6 = true) : l.length ≤ 6 ∧ ∀ b ∈ l, b.mark.size ≤ 60 := by
  unfold smlB at h
  simp only [Bool.and_eq_true, decide_eq_true_eq] at h
  refine ⟨h.1, fun b hb => ?_⟩
  have := List.all_eq_true.1 h.2 b hb
  simp only [Bool.and_eq_true, decide_eq_true_eq] at this
  exact this.1
set_option maxRecDepth 100000 in
set_option maxHeartbeats 1000000 in
theorem yardLarge_any (l : List Br) (ds : List Value) (a : Option Addr) (cc : Nat) (w : World) (h : BarsW w l ds a cc) : Calls Tryd.prog 5 #[.slice a l.length cc] w fun e w' => e = .returned (.bool (!smlB l 6)) ∧ w = w' := by
  have HS := Lib.hid (small14W_any l ds a cc 6 w (by decide) h)
  obtain ⟨R, hR⟩ : ∃ R, smlB l 6 = R := ⟨_, rfl⟩
  rw [hR] at HS ⊢
  generalize l.length = n at *
  clear h hR
  go_enter Tryd.func5, Tryd.ntmps5
  go_wp2_with fail
  refine HS.out.mono ?_
  rintro e w1 ⟨rfl, rfl⟩
  clear HS
  go_wp2_with fail
  go_ret
  exact ⟨rfl, rfl⟩
def boolV (n : Nat) (acc : List Nat) : List Value := (List.range n).map fun k => .bool (decide (k ∈ acc))
theorem boolV_len (n : Nat) (acc : List Nat) : (boolV n acc).length = n := by unfold boolV; rw [List.length_map, List.length_range]
theorem boolV_get {n k : Nat} (acc : List Nat) (hk : k < n) : (boolV n acc)[k]? = some (.bool (decide (k ∈ acc))) := by
  unfold boolV
  rw [List.getElem?_map, List.getElem?_range hk]
  rfl
theorem boolV_nil (n : Nat) : boolV n [] = List.replicate n (.bool false) := by
  refine List.ext_getElem? fun k => ?_
  by_cases hk : k < n
  · rw [boolV_get [] hk, List.getElem?_replicate_of_lt hk]
    simp
  · rw [List.getElem?_eq_none (by rw [boolV_len]; omega), List.getElem?_eq_none (by simp; omega)]
theorem boolV_set {n x : Nat} (acc : List Nat) (hx : x < n) : (boolV n acc).set x (.bool true) = boolV n (acc ++ [x]) := by
  refine List.ext_getElem? fun k => ?_
  by_cases hk : k < n
  · rw [boolV_get _ hk, List.getElem?_set]
    by_cases e : x = k
    · subst e
      rw [if_pos rfl, if_pos (by rw [boolV_len]; exact hx)]
      simp
    · rw [if_neg e, boolV_get _ hk]
      simp [show ¬ k = x from fun h => e h.symm]
  · rw [List.getElem?_eq_none (by rw [List.length_set, boolV_len]; omega), List.getElem?_eq_none (by rw [boolV_len]; omega)]
set_option maxRecDepth 100000 in
set_option maxHeartbeats 1000000 in
theorem idxBool_any (g n : Nat) (w : World) (hn : n ≤ 1000000) (hc : Hid (∀ k, k < n → w.cell? ⟨g, k, none⟩ = some (.bool true))) : Calls Tryd.prog 31 #[.slice (some ⟨g, 0, none⟩) n n, .bool false] w fun e w' => e = .returned (.int .i64 (-1)) ∧ w = w' := by
  go_enter Tryd.func31, Tryd.ntmps31
  go_wp2_with fail
  go_loopg [8] n (fun g1 i wr => ∃ k : Nat, k ≤ n ∧ i = .int .i64 (k : Int) ∧ Hid (g1 = n - k) ∧ w = wr)
  case atStart => exact ⟨0, Nat.zero_le _, rfl, Lib.hid rfl, rfl⟩
  case round =>
    obtain ⟨k, hk, rfl, hr, rfl⟩ := hrel
    by_cases hlt : k < n
    · have c0 := hc.out k hlt
      go_wp2_with fail
      go_roundg (n - (k + 1))
      case measure => have := hr.out; omega
      case rel => exact ⟨k + 1, by omega, by go_num, Lib.hid rfl, rfl⟩
    · go_wp2_with fail
      go_ret
      exact ⟨rfl, rfl⟩
set_option maxRecDepth 100000 in
set_option maxHeartbeats 1000000 in
theorem contBool_any (g n : Nat) (w : World) (hn : n ≤ 1000000) (hc : Hid (∀ k, k < n → w.cell? ⟨g, k, none⟩ = some (.bool true))) : Calls Tryd.prog 13 #[.slice (some ⟨g, 0, none⟩) n n, .bool false] w fun e w' => e = .returned (.bool false) ∧ w = w' := by
  have HI := Lib.hid (idxBool_any g n w hn hc)
  clear hc
  go_enter Tryd.func13, Tryd.ntmps13
  go_wp2_with fail
  refine HI.out.mono ?_
  rintro e w1 ⟨rfl, rfl⟩
  clear HI
  go_wp2_with fail
  go_ret
  exact ⟨rfl, rfl⟩
theorem sumF2_map (U : List Bun) : sumF2 (massN U) U.length = (U.map (·.mass)).sum := by
  unfold sumF2
  congr 1
  refine List.ext_getElem (by simp) fun k h1 h2 => ?_
  simp only [List.getElem_map, List.getElem_range]
  unfold massN
  rw [List.getElem?_eq_getElem (by simpa using h2)]
theorem make_tags {most : Int} {bars : List Br} (h : SchOk most bars) (hm : ∀ b ∈ bars, b.mark.size ≤ 60) : ∀ x ∈ makeL most bars, x.tag.size ≤ 60 ∧ x.mark.size ≤ 60 := fun x hx => by
  obtain ⟨k, y, hk, rfl, hp⟩ := make_mem h hx
  obtain ⟨b, hb, e1, e2⟩ := hp.line
  have h1 := (tag_small k (by have := h.full; omega)).2.2
  refine ⟨show (tagN k).size ≤ 60 by omega, ?_⟩
  show y.1.size ≤ 60
  rw [e1]
  exact hm b hb
theorem make_bars {most : Int} {bars : List Br} (h : SchOk most bars) : ∀ x ∈ makeL most bars, ∃ b ∈ bars, x.mark = b.mark ∧ x.mass = x.count * massB b := fun x hx => by
  obtain ⟨k, y, hk, rfl, hp⟩ := make_mem h hx
  exact hp.line
theorem makeE_err {most : Int} {bars : List Br} (h : (makeE most bars).2 ≠ 0) : (makeE most bars).1 = [] := by
  unfold makeE at h ⊢
  split
  · rfl
  · rename_i h1
    rw [if_neg h1] at h
    split
    · rfl
    · rename_i h2
      rw [if_neg h2] at h
      split
      · rfl
      · rename_i h3
        rw [if_neg h3] at h
        split
        · rfl
        · rename_i h4
          rw [if_neg h4] at h
          exact absurd rfl h
theorem sch_val {most : Int} {bars : List Br} (h : SchOk most bars) : schV bars = true := by
  unfold schV marksD
  simp only [Bool.and_eq_true, decide_eq_true_eq]
  exact ⟨⟨h.few, List.all_eq_true.2 fun b hb => (h.ok b hb).1⟩, h.nodup⟩
end Go.Proofs.YtjlkbmaigcgnbaaDoor
