/- ratio.Parse by its value. -/
import Derived.Test.YtpijmjffobkalaaDoorRaP1
import Derived.Test.YtpijmjffobkalaaDoorRaT4
import Derived.Test.YtpijmjffobkalaaDoorShelf
import Derived.Deep.LoopGhost
import Derived.Lib.AtoiErrMem
import Derived.Shelf.Strconv.ErrVarAll
import Derived.Deep.DeepCutAuto
import Derived.Deep.CutBlock
set_option linter.unusedVariables false
namespace Go.Proofs.YtpijmjffobkalaaDoor
open Go.ChangeShapes Go.WideShapes Go.ChangeAt Go.RowKit

theorem var_bel {w w' : World} {n : String} {cs : Array Value} (h : w.var? Tryd.prog n = some cs) (hb : Below w.heap.size w w') : w'.var? Tryd.prog n = some cs := by
  unfold World.var? at *
  cases hg : Tryd.prog.globalNamed n with
  | none => rw [hg] at h; simp at h
  | some g =>
    rw [hg] at h
    simp only [Option.bind_some] at h ⊢
    have hlt : g < w.heap.size := by
      rcases Nat.lt_or_ge g w.heap.size with k | k
      · exact k
      · rw [Array.getElem?_eq_none k] at h; simp at h
    rw [hb.block g hlt]
    exact h
/-- The listed tables, and the two sentinels of strconv. -/
structure Env (w : World) : Prop where
  tab : Tab w
  syn : ∃ tp p, w.var? Tryd.prog "strconv.ErrSyntax" = some #[.iface tp p]
  rng : ∃ tp p, w.var? Tryd.prog "strconv.ErrRange" = some #[.iface tp p]
theorem Env.bel {w w' : World} (h : Env w) (hb : Below w.heap.size w w') : Env w' :=
  ⟨h.tab.bel hb, h.syn.imp fun _ ⟨p, h⟩ => ⟨p, var_bel h hb⟩, h.rng.imp fun _ ⟨p, h⟩ => ⟨p, var_bel h hb⟩⟩
theorem Env.bel' {w w' : World} {n : Nat} (h : Env w) (hn : w.heap.size ≤ n) (hb : Below n w w') : Env w' := h.bel (hb.mono hn)
def atR (l : List UInt8) (n : Int) (E : Value) : Prop := (E = .nilIface ∧ Lib.atoiAll l = .ok n) ∨ ((∃ N, E = .iface 102 (.pointer (some ⟨N, 0, none⟩))) ∧ ∀ v, Lib.atoiAll l ≠ .ok v)
theorem atoi_env (s : ByteArray) (hs : s.size ≤ 1000000) (w : World) (h : Env w) :
    Calls Tryd.prog 63 #[.string s] w fun e w' => (∃ n E, e = .returned (.tuple #[.int .i64 n, E]) ∧ Hid (atR (by_ s) n E)) ∧ Below w.heap.size w w' := by
  cases ha : Lib.atoiAll s.data.toList with
  | ok v =>
    refine (Tryd.strconv_Atoi_ok s (by omega) v ha w).mono ?_
    rintro e w' ⟨rfl, hw⟩
    refine ⟨⟨v, _, rfl, Lib.hid (Or.inl ⟨rfl, ha⟩)⟩, ?_⟩
    rcases hw with rfl | ⟨t, rfl⟩
    · exact Below.refl _ _
    · exact Lib.bytesWorld_below _ _ _
  | range =>
    obtain ⟨tp, p, hv⟩ := h.rng
    refine (Tryd.strconv_Atoi_range_var s (by omega) ha tp p w hv).mono ?_
    rintro e w' ⟨N, rfl, _, _, hb⟩
    exact ⟨⟨_, _, rfl, Lib.hid (Or.inr ⟨⟨N, rfl⟩, fun v hv => by rw [ha] at hv; cases hv⟩)⟩, hb⟩
  | _ =>
    obtain ⟨tp, p, hv⟩ := h.syn
    refine (Any.strconv_Atoi_syntax_var Tryd.laysC172 s (by omega) ha tp p w hv).mono ?_
    rintro e w' ⟨N, rfl, _, _, hb⟩
    exact ⟨⟨_, _, rfl, Lib.hid (Or.inr ⟨⟨N, rfl⟩, fun v hv => by rw [ha] at hv; cases hv⟩)⟩, hb⟩
theorem by_take (s : ByteArray) (j : Nat) : by_ (s.extract 0 j) = (by_ s).take j := by simp [by_]
theorem by_drop (s : ByteArray) (n : Nat) : by_ (s.extract n s.size) = (by_ s).drop n := by
  have e := Lib.extract_data s n s.size
  rw [show (s.extract n s.size).data.toList = by_ (s.extract n s.size) from rfl] at e
  rw [e, List.take_of_length_le]
  rw [List.length_drop]
  exact Nat.le_refl _

set_option maxRecDepth 100000 in
theorem lcut_any (s : ByteArray) (hs : s.size ≤ 1000000) (w : World) :
    Calls Tryd.prog 73 #[.string s, .string ⟨#[47]⟩] w fun e w' => e = .returned (.tuple #[.string ⟨(cutB 47 (by_ s)).1.toArray⟩, .string ⟨(cutB 47 (by_ s)).2.1.toArray⟩, .bool (cutB 47 (by_ s)).2.2]) ∧ Below w.heap.size w w' := by
  have HI : Hid (∀ w, Calls Tryd.prog 78 #[.string s, .string ⟨#[47]⟩] w fun e w' => e = .returned (.int .i64 (Lib.indexByte (by_ s) 47)) ∧ w = w') := Lib.hid fun w => (Tryd.stringslite_Index_one s 47 w).mono fun _ _ ⟨a, b⟩ => ⟨a, b.symm⟩
  have hb := idx_bd (by_ s) 47
  have hg := Lib.indexByte_ge (by_ s) 47
  have hl : (by_ s).length = s.size := rfl
  rw [hl] at hb
  unfold cutB
  generalize Lib.indexByte (by_ s) 47 = i at *
  clear hl
  by_cases h : i < 0
  · rw [if_pos h]
    have hm : (⟨(by_ s).toArray⟩ : ByteArray) = s := by_mk s
    rw [show (((by_ s), [], false) : List UInt8 × List UInt8 × Bool).1 = by_ s from rfl, hm]
    show Calls Tryd.prog 73 #[.string s, .string ⟨#[47]⟩] w fun e w' => e = .returned (.tuple #[.string s, .string ⟨#[]⟩, .bool false]) ∧ Below w.heap.size w w'
    clear hm
    go_enter Tryd.func73, Tryd.ntmps73
    go_wp2_with fail
    refine (HI.out _).mono ?_
    rintro e w' ⟨rfl, rfl⟩
    go_wp2_with fail
    go_ret3
    exact ⟨rfl, Below.refl _ _⟩
  · rw [if_neg h]
    obtain ⟨j, rfl⟩ : ∃ j : Nat, i = (j : Int) := ⟨i.toNat, by omega⟩
    rw [Int.toNat_natCast, ← by_take, ← by_drop]
    show Calls Tryd.prog 73 #[.string s, .string ⟨#[47]⟩] w fun e w' => e = .returned (.tuple #[.string ⟨(by_ (s.extract 0 j)).toArray⟩, .string ⟨(by_ (s.extract (j + 1) s.size)).toArray⟩, .bool true]) ∧ Below w.heap.size w w'
    rw [by_mk, by_mk]
    have q1 : (j : Int) ≤ (s.size : Int) := by omega
    have q2 : (j : Int) + 1 ≤ (s.size : Int) := by omega
    go_enter Tryd.func73, Tryd.ntmps73
    go_wp2_with fail
    refine (HI.out _).mono ?_
    rintro e w' ⟨rfl, rfl⟩
    go_upto_region 3 with fail
    go_region
    go_wp2_with fail
    go_ret3
    exact ⟨rfl, (by repeat (first | with_reducible assumption | with_reducible exact Below.refl _ _ | with_reducible refine below_al ?_ _ | with_reducible refine below_drew ?_ | with_reducible refine below_drewN ?_ _ | with_reducible refine below_set ?_ (by dsimp only; omega) _))⟩
set_option maxRecDepth 100000 in
theorem cut_any (s : ByteArray) (hs : s.size ≤ 1000000) (w : World) :
    Calls Tryd.prog 62 #[.string s, .string ⟨#[47]⟩] w fun e w' => e = .returned (.tuple #[.string ⟨(cutB 47 (by_ s)).1.toArray⟩, .string ⟨(cutB 47 (by_ s)).2.1.toArray⟩, .bool (cutB 47 (by_ s)).2.2]) ∧ Below w.heap.size w w' := by
  have HL := Lib.hid (fun w => lcut_any s hs w)
  generalize cutB 47 (by_ s) = r at *
  go_enter Tryd.func62, Tryd.ntmps62
  go_wp2_with fail
  refine (HL.out _).mono ?_
  rintro e w' ⟨rfl, HB⟩
  go_wp2_with fail
  go_ret3
  exact ⟨rfl, HB⟩

def pvR (o : Option (Int × Int)) : Int × Int × Int := match o with | some (n, d) => (n, d, 0) | none => (0, 0, 7)
def secL (r : List UInt8 × List UInt8 × Bool) : List UInt8 := if r.2.2 then r.2.1 else [49]
theorem parO_bad1 {l : List UInt8} (h : ∀ v, Lib.atoiAll (cutB 47 l).1 ≠ .ok v) : parO l = none := by
  unfold parO
  split
  · rename_i n d h1 h2
    exact absurd h1 (h n)
  · rfl
theorem parO_bad2 {l : List UInt8} (h : ∀ v, Lib.atoiAll (secL (cutB 47 l)) ≠ .ok v) : parO l = none := by
  unfold parO
  split
  · rename_i n d h1 h2
    exact absurd h2 (h d)
  · rfl
theorem parO_ok {l : List UInt8} {n d : Int} (h1 : Lib.atoiAll (cutB 47 l).1 = .ok n) (h2 : Lib.atoiAll (secL (cutB 47 l)) = .ok d) : parO l = if fracB n d && txtL n d == l then some (n, d) else none := by
  unfold parO
  unfold secL at h2
  rw [h1, h2]
set_option maxRecDepth 100000 in
set_option maxHeartbeats 1000000 in
theorem parse_any (s : ByteArray) (hs : s.size ≤ 1000) (w : World) (he : Env w) :
    Calls Tryd.prog 36 #[.string s] w fun e w' => e = .returned (frv (pvR (parO (by_ s)))) ∧ Below w.heap.size w w' := by
  have HC := Lib.hid (fun w => cut_any s (by omega) w)
  obtain ⟨R, hR⟩ : ∃ R, parO (by_ s) = R := ⟨_, rfl⟩
  rw [hR]
  replace hR := Lib.hid hR
  have hS : Hid (secL (cutB 47 (by_ s)) = by_ (if (cutB 47 (by_ s)).2.2 then ⟨(cutB 47 (by_ s)).2.1.toArray⟩ else (⟨#[49]⟩ : ByteArray))) := Lib.hid (by unfold secL; split <;> simp [by_])
  have hl : Hid ((cutB 47 (by_ s)).1.length ≤ s.size ∧ (secL (cutB 47 (by_ s))).length ≤ s.size + 1) := Lib.hid (by
    unfold secL cutB
    have : (by_ s).length = s.size := rfl
    split
    · simp [by_]
    · constructor
      · simp only [List.length_take]; omega
      · simp only [if_true, List.length_drop]; omega)
  have h1 : Hid ((cutB 47 (by_ s)).1 = by_ (⟨(cutB 47 (by_ s)).1.toArray⟩ : ByteArray)) := Lib.hid (mk_by _).symm
  obtain ⟨r, hr⟩ : ∃ r, cutB 47 (by_ s) = r := ⟨_, rfl⟩
  rw [hr] at HC hS hl h1
  replace hr := Lib.hid hr
  obtain ⟨sf, hsf⟩ : ∃ sf : ByteArray, (⟨r.1.toArray⟩ : ByteArray) = sf := ⟨_, rfl⟩
  obtain ⟨sg, hsg⟩ : ∃ sg : ByteArray, (⟨r.2.1.toArray⟩ : ByteArray) = sg := ⟨_, rfl⟩
  obtain ⟨two, htw⟩ : ∃ two : Bool, r.2.2 = two := ⟨_, rfl⟩
  rw [hsf] at h1
  rw [hsg, htw] at hS
  rw [hsf, hsg, htw] at HC
  have he' := Lib.hid he
  clear he hsf hsg htw
  have bf : sf.size ≤ 1000000 := by
    have := hl.out.1
    rw [h1.out, by_len] at this
    omega
  obtain ⟨sd, hsd⟩ : ∃ sd : ByteArray, (if two then sg else (⟨#[49]⟩ : ByteArray)) = sd := ⟨_, rfl⟩
  rw [hsd] at hS
  have bd : sd.size ≤ 1000000 := by
    have := hl.out.2
    rw [hS.out, by_len] at this
    omega
  have HA := Lib.hid (fun w h => atoi_env sf bf w h)
  have HD := Lib.hid (fun w h => atoi_env sd bd w h)
  go_enter Tryd.func36, Tryd.ntmps36
  go_upto_region 1 with fail
  generalize hWW : World.alloc _ _ = W0
  have kz : At W0 w.heap.size 23 #[.int .i64 0, .int .i64 0] := by rw [← hWW]; exact At.new' rfl
  have HB : Below w.heap.size w W0 := by rw [← hWW]; exact below_al (Below.refl _ _) _
  clear hWW
  go_wp2_with fail
  refine (HC.out _).mono ?_
  rintro e w1 ⟨rfl, hb⟩
  replace kz := At.bel kz hb
  replace HB := below_then HB hb
  replace he' := Lib.hid (he'.out.bel HB)
  clear hb HC
  go_upto_if 19 with fail
  go_cut [5] (fun v5 wn => v5 = .string sd ∧ wn = w1)
  case first =>
    cases two
    · have e : Hid (sd = ⟨#[49]⟩) := Lib.hid (by rw [← hsd]; rfl)
      clear hsd HD HA
      go_wp2_with fail
      go_meet
      exact ⟨by rw [e.out], rfl⟩
    · have e : Hid (sg = sd) := Lib.hid (by rw [← hsd]; rfl)
      clear hsd HD HA
      go_wp2_with fail
      go_meet
      exact ⟨by rw [e.out], rfl⟩
  case rest =>
    obtain ⟨rfl, rfl⟩ := hcut
    go_wp2_with fail
    refine (HA.out _ he'.out).mono ?_
    rintro e w2 ⟨⟨n, E1, rfl, q1⟩, hb⟩
    replace kz := At.bel kz hb
    replace HB := below_then HB hb
    replace he' := Lib.hid (he'.out.bel hb)
    clear hb HA
    go_wp2_with fail
    refine (HD.out _ he'.out).mono ?_
    rintro e w3 ⟨⟨d, E2, rfl, q2⟩, hb⟩
    replace kz := At.bel kz hb
    replace HB := below_then HB hb
    replace he' := Lib.hid (he'.out.bel hb)
    clear hb HD
    have Lz := kz.lt
    go_upto_region 7 with fail
    generalize hWW : World.alloc _ _ = W4
    have ka : At W4 w3.heap.size 23 #[.int .i64 n, .int .i64 d] := by rw [← hWW]; exact At.new' rfl
    replace kz : At W4 w.heap.size 23 #[.int .i64 0, .int .i64 0] := by rw [← hWW]; exact At.al kz _
    have hb2 : Below w3.heap.size w3 W4 := by rw [← hWW]; exact below_al (Below.refl _ _) _
    replace HB := below_then HB hb2
    replace he' := Lib.hid (he'.out.bel hb2)
    clear hWW hb2
    rcases q1.out with ⟨rfl, a1⟩ | ⟨⟨N1, rfl⟩, a1⟩
    · rcases q2.out with ⟨rfl, a2⟩ | ⟨⟨N2, rfl⟩, a2⟩
      · have bn := Lib.atoiAll_bounds a1
        have bd' := Lib.atoiAll_bounds a2
        have hv := Lib.hid (fun w => fvalid_any n d w)
        have HT := Lib.hid (fun w ht => text_any n d bn bd' w ht)
        obtain ⟨st, hst⟩ : ∃ st : ByteArray, (⟨(txtL n d).toArray⟩ : ByteArray) = st := ⟨_, rfl⟩
        rw [hst] at HT
        have hE : Hid (R = if fracB n d && (st.toList == s.toList) then some (n, d) else none) := Lib.hid (by
          have h1' : (cutB 47 (by_ s)).1 = by_ sf := by rw [hr.out]; exact h1.out
          have h2' : secL (cutB 47 (by_ s)) = by_ sd := by rw [hr.out]; exact hS.out
          rw [← hR.out, parO_ok (n := n) (d := d) (by rw [h1']; exact a1) (by rw [h2']; exact a2)]
          have : (txtL n d == by_ s) = (st.toList == s.toList) := by rw [Lib.toList_data, Lib.toList_data, ← hst]
          rw [this])
        clear a1 a2 q1 q2 bn bd'
        cases hf : fracB n d
        · rw [hf] at hE hv
          replace hE : Hid (R = none) := Lib.hid (by rw [hE.out]; rfl)
          obtain ⟨ka0, ka1, ka2, ka3⟩ := ka.two
          clear hf
          go_wp2_with fail
          refine (hv.out _).mono ?_
          rintro e w5 ⟨rfl, hb⟩
          replace kz := At.bel kz hb
          replace HB := below_then HB hb
          clear hb ka0 ka1 ka2 ka3 ka
          obtain ⟨kz0, kz1, kz2, kz3⟩ := kz.two
          have Lz := kz.lt
          go_wp2_with fail
          generalize hWW : World.setCell _ _ _ = WW
          have kz' : At WW w.heap.size 23 #[.int .i64 0, .int .i64 0] := by rw [← hWW]; exact At.put1 (At.put0 kz _) _
          have HB' : Below w.heap.size w WW := by rw [← hWW]; exact below_set (below_set HB (Nat.le_refl _) _) (Nat.le_refl _) _
          clear hWW kz0 kz1 kz2 kz3 kz HB
          have k0 := kz'.c0
          have k1 := kz'.c1
          exact bodyPost_ret (v := frv (0, 0, 7)) (by simp [results, Tryd.results36, go_sem, k0, k1]) rfl ⟨by rw [hE.out]; rfl, HB'⟩
        · rw [hf] at hE hv
          obtain ⟨ka0, ka1, ka2, ka3⟩ := ka.two
          clear hf
          go_wp2_with fail
          refine (hv.out _).mono ?_
          rintro e w5 ⟨rfl, hb⟩
          replace kz := At.bel kz hb
          replace ka := At.bel ka hb
          replace HB := below_then HB hb
          replace he' := Lib.hid (he'.out.bel hb)
          clear hb ka0 ka1 ka2 ka3
          obtain ⟨ka0, ka1, ka2, ka3⟩ := ka.two
          go_wp2_with fail
          refine (HT.out _ he'.out.tab).mono ?_
          rintro e w6 ⟨rfl, hb⟩
          replace kz := At.bel kz hb
          replace ka := At.bel ka hb
          replace HB := below_then HB hb
          clear hb ka0 ka1 ka2 ka3
          obtain ⟨ka0, ka1, ka2, ka3⟩ := ka.two
          obtain ⟨kz0, kz1, kz2, kz3⟩ := kz.two
          have Lz := kz.lt
          cases hq : (st.toList == s.toList)
          · replace hE : Hid (R = none) := Lib.hid (by rw [hE.out, hq]; rfl)
            go_wp2_with fail
            generalize hWW : World.setCell _ _ _ = WW
            have kz' : At WW w.heap.size 23 #[.int .i64 0, .int .i64 0] := by rw [← hWW]; exact At.put1 (At.put0 kz _) _
            have HB' : Below w.heap.size w WW := by rw [← hWW]; exact below_set (below_set HB (Nat.le_refl _) _) (Nat.le_refl _) _
            clear hWW kz0 kz1 kz2 kz3 kz HB
            have k0 := kz'.c0
            have k1 := kz'.c1
            exact bodyPost_ret (v := frv (0, 0, 7)) (by simp [results, Tryd.results36, go_sem, k0, k1]) rfl ⟨by rw [hE.out]; rfl, HB'⟩
          · replace hE : Hid (R = some (n, d)) := Lib.hid (by rw [hE.out, hq]; rfl)
            go_wp2_with fail
            generalize hWW : World.setCell _ _ _ = WW
            have kz' : At WW w.heap.size 23 #[.int .i64 n, .int .i64 d] := by rw [← hWW]; exact At.put1 (At.put0 kz _) _
            have HB' : Below w.heap.size w WW := by rw [← hWW]; exact below_set (below_set HB (Nat.le_refl _) _) (Nat.le_refl _) _
            clear hWW kz0 kz1 kz2 kz3 kz HB
            have k0 := kz'.c0
            have k1 := kz'.c1
            exact bodyPost_ret (v := frv (n, d, 0)) (by simp [results, Tryd.results36, go_sem, k0, k1]) rfl ⟨by rw [hE.out]; rfl, HB'⟩
      · have hE : Hid (R = none) := Lib.hid (by
          rw [← hR.out]
          exact parO_bad2 (by rw [show secL (cutB 47 (by_ s)) = by_ sd by rw [hr.out]; exact hS.out]; exact a2))
        clear a1 a2 ka
        obtain ⟨kz0, kz1, kz2, kz3⟩ := kz.two
        have Lz := kz.lt
        go_wp2_with fail
        generalize hWW : World.setCell _ _ _ = WW
        have kz' : At WW w.heap.size 23 #[.int .i64 0, .int .i64 0] := by rw [← hWW]; exact At.put1 (At.put0 kz _) _
        have HB' : Below w.heap.size w WW := by rw [← hWW]; exact below_set (below_set HB (Nat.le_refl _) _) (Nat.le_refl _) _
        clear hWW kz0 kz1 kz2 kz3 kz HB
        have k0 := kz'.c0
        have k1 := kz'.c1
        exact bodyPost_ret (v := frv (0, 0, 7)) (by simp [results, Tryd.results36, go_sem, k0, k1]) rfl ⟨by rw [hE.out]; rfl, HB'⟩
    · have hE : Hid (R = none) := Lib.hid (by
        rw [← hR.out]
        exact parO_bad1 (by rw [show (cutB 47 (by_ s)).1 = by_ sf by rw [hr.out]; exact h1.out]; exact a1))
      clear a1 ka q1
      rcases q2.out with ⟨rfl, a2⟩ | ⟨⟨N2, rfl⟩, a2⟩
      · clear a2 q2
        obtain ⟨kz0, kz1, kz2, kz3⟩ := kz.two
        have Lz := kz.lt
        go_wp2_with fail
        generalize hWW : World.setCell _ _ _ = WW
        have kz' : At WW w.heap.size 23 #[.int .i64 0, .int .i64 0] := by rw [← hWW]; exact At.put1 (At.put0 kz _) _
        have HB' : Below w.heap.size w WW := by rw [← hWW]; exact below_set (below_set HB (Nat.le_refl _) _) (Nat.le_refl _) _
        clear hWW kz0 kz1 kz2 kz3 kz HB
        have k0 := kz'.c0
        have k1 := kz'.c1
        exact bodyPost_ret (v := frv (0, 0, 7)) (by simp [results, Tryd.results36, go_sem, k0, k1]) rfl ⟨by rw [hE.out]; rfl, HB'⟩
      · clear a2 q2
        obtain ⟨kz0, kz1, kz2, kz3⟩ := kz.two
        have Lz := kz.lt
        go_wp2_with fail
        generalize hWW : World.setCell _ _ _ = WW
        have kz' : At WW w.heap.size 23 #[.int .i64 0, .int .i64 0] := by rw [← hWW]; exact At.put1 (At.put0 kz _) _
        have HB' : Below w.heap.size w WW := by rw [← hWW]; exact below_set (below_set HB (Nat.le_refl _) _) (Nat.le_refl _) _
        clear hWW kz0 kz1 kz2 kz3 kz HB
        have k0 := kz'.c0
        have k1 := kz'.c1
        exact bodyPost_ret (v := frv (0, 0, 7)) (by simp [results, Tryd.results36, go_sem, k0, k1]) rfl ⟨by rw [hE.out]; rfl, HB'⟩

end Go.Proofs.YtpijmjffobkalaaDoor
