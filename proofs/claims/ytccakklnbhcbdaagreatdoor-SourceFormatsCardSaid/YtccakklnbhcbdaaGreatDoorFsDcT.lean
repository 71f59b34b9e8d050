import Derived.Test.YtccakklnbhcbdaaGreatDoorFQb
import Derived.Test.YtccakklnbhcbdaaGreatDoorFA
import Derived.Deep.LoopGhost
import Derived.Deep.DeepCutAuto
import Derived.Deep.CutBlock
import Derived.Deep.RegionWith
set_option linter.unusedVariables false
namespace Go.Proofs.YtccakklnbhcbdaaGreatDoor
open Go.ChangeShapes Go.WideShapes Go.ChangeAt Go.RowKit
theorem infoTok : (Tryz.prog.info? 107).map (fun i => (i.zero, i.size, i.bytes)) = some (some (.agg #[.int .i64 0, .string ByteArray.empty, .int .i64 0, .int .i64 0]), 4, 40) := by kernel_rfl
def tkC (t : Tk) : List Value := [.int .i64 t.kind, .string ⟨t.text.toArray⟩, .int .i64 t.line, .int .i64 t.col]
def tksC (l : List Tk) : List Value := l.flatMap tkC
theorem tksC_add (l : List Tk) (t : Tk) : tksC (l ++ [t]) = tksC l ++ tkC t := by simp [tksC, List.flatMap_append]
def tkR (R : List Tk × (Int × Int) × Int) (base : Nat) (e : Ending) (w' : World) : Prop :=
 ∃ v, e = .returned (.tuple #[v, .agg #[.int .i64 R.2.1.1, .int .i64 R.2.1.2], .int .i64 R.2.2]) ∧ w'.ownsRow base 107 4 v R.1.length (tksC R.1)
theorem own_bel {w w' : World} {base : Nat} {e : TypeId} {size : Nat} {v : Value} {n : Nat} {xs : List Value} (h : w.ownsRow base e size v n xs) (hb : Below w.heap.size w w') : w'.ownsRow base e size v n xs := by
 obtain ⟨h1, h2 | ⟨g, cap, cur, e1, e2, e3, e4⟩⟩ := h
 ·exact ⟨h1, .inl h2⟩
 ·refine ⟨h1, .inr ⟨g, cap, cur, e1, e2, (hb.block g ?_).trans e3, e4⟩⟩
  rcases Nat.lt_or_ge g w.heap.size with h | h
  ·exact h
  ·rw [Array.getElem?_eq_none h] at e3; exact absurd e3 (by simp)
theorem At.grown {w w' : World} {row : Option Nat} {g : Nat} {t : TypeId} {cs : Array Value} (h : At w g t cs) (hg : w.grownBy w' row) (hne : some g ≠ row) : At w' g t cs := (hg.block g h.lt hne).trans h
theorem own_ne {w : World} {base : Nat} {e : TypeId} {size : Nat} {v : Value} {n : Nat} {xs : List Value} (h : w.ownsRow base e size v n xs) {g : Nat} (hg : g < base) : some g ≠ v.ownBlock := fun e => by have := (h.lt g e.symm).1; omega
theorem own_set {w : World} {base : Nat} {e : TypeId} {size : Nat} {v : Value} {n : Nat} {xs : List Value} (h : w.ownsRow base e size v n xs) {p : Addr} (hp : p.block < base) (u : Value) : (w.setCell p u).ownsRow base e size v n xs := by
 obtain ⟨h1, h2 | ⟨g, cap, cur, e1, e2, e3, e4⟩⟩ := h
 ·exact ⟨h1, .inl h2⟩
 ·exact ⟨h1, .inr ⟨g, cap, cur, e1, e2, (Below.heap_setCell w p u g (by omega)).trans e3, e4⟩⟩
theorem own_base {w : World} {base : Nat} {e : TypeId} {size : Nat} {v : Value} {n : Nat} {xs : List Value} (h : w.ownsRow (base + 2) e size v n xs) : w.ownsRow base e size v n xs := by
 obtain ⟨h1, h2 | ⟨g, cap, cur, e1, e2, e3, e4⟩⟩ := h
 ·exact ⟨h1, .inl h2⟩
 ·exact ⟨h1, .inr ⟨g, cap, cur, e1, by omega, e3, e4⟩⟩
theorem four_cells {w : World} {t : TypeId} {n : Nat} (hn : n = w.heap.size) (a b c d : Value) : ∀ (j : Nat) (u : Value), [a, b, c, d][j]? = some u → (w.alloc (.cells #[a, b, c, d] t)).cell? ((⟨n, 0, none⟩ : Addr).add j) = some u := by
 intro j u hj
 subst hn
 match j, hj with
 | 0, hj | 1, hj | 2, hj | 3, hj => simp at hj; subst hj; simp [Addr.add]
theorem four_one (k : Int) (t : ByteArray) (a b : Int) : ∀ u ∈ [Value.int .i64 k, .string t, .int .i64 a, .int .i64 b], u.oneCell' = true := by
 intro u hu
 simp only [List.mem_cons, List.not_mem_nil, or_false] at hu
 rcases hu with rfl | rfl | rfl | rfl <;> rfl
theorem ne_of (s : ByteArray) (h : 0 < s.size) : s.toList.isEmpty = false := by
 rw [Lib.toList_data]
 cases e : s.data.toList with
 | nil => rw [Lib.size_eq, e] at h; simp at h
 | cons _ _ => rfl
theorem em_of (s : ByteArray) (h : s.size = 0) : s.toList.isEmpty = true := by
 rw [Lib.toList_data, List.isEmpty_iff]
 exact List.length_eq_zero_iff.1 (by rw [← Lib.size_eq]; exact h)
theorem idx_run (l : List UInt8) : (Lib.indexByte l 10 = -1 ∧ runL (fun c => decide (c.toNat ≠ 10)) l = l.length) ∨ Lib.indexByte l 10 = (runL (fun c => decide (c.toNat ≠ 10)) l : Int) := by
 induction l with
 | nil => exact .inl ⟨rfl, rfl⟩
 | cons c l ih =>
  rw [runL_cons]
  unfold Lib.indexByte
  cases h : c == 10
  ·have hc : ¬ c.toNat = 10 := fun e => by
    have : c = 10 := UInt8.toNat_inj.1 e
    rw [this] at h
    exact absurd h (by decide)
   rw [if_neg (by simp), show (if decide (c.toNat ≠ 10) = true then runL (fun c => decide (c.toNat ≠ 10)) l + 1 else 0) = runL (fun c => decide (c.toNat ≠ 10)) l + 1 from if_pos (by simp [hc])]
   rcases ih with ⟨h1, h2⟩ | h1
   ·left
    rw [h1, h2]
    exact ⟨rfl, by simp⟩
   ·right
    rw [h1]
    rw [if_neg (by simp <;> omega)]
    omega
  ·have hc : c = 10 := by simpa using h
   subst hc
   right
   rw [if_pos rfl, if_neg (by simp)]
   rfl
def Fct (R : List Tk × (Int × Int) × Int) (g : Nat) (s : ByteArray) (line col : Int) (acc : List Tk) : Prop :=
 g = s.size ∧ R = tokF s.size (by_ s) line col acc ∧ acc.length + s.size ≤ 262144 ∧ 1 ≤ line ∧ line + s.size ≤ 262145 ∧ 1 ≤ col ∧ col + s.size ≤ 262145
section
variable {R : List Tk × (Int × Int) × Int} {g : Nat} {s : ByteArray} {line col : Int} {acc : List Tk} {K : Int} {N : Nat}
theorem ex_size (s : ByteArray) (n : Nat) : (s.extract n s.size).size = s.size - n := by simp
theorem st_nl (hf : Fct R g s line col acc) (h : 0 < s.size) (hn : nextL (by_ s) = (4, N)) : Fct R (s.size - 1) (s.extract 1 s.size) (line + 1) 1 (acc ++ [⟨4, [], line, col⟩]) := by
 obtain ⟨_, f1, f2, f3, f4, f5, f6⟩ := hf
 rw [tok_step h, hn, if_neg (show ¬ (4 : Int) < 0 by decide), if_pos rfl] at f1
 refine ⟨(ex_size s 1).symm, ?_, ?_, by omega, ?_, by omega, ?_⟩
 ·rw [f1, ← by_drop]; rfl
 ·rw [ex_size]; simp; omega
 ·rw [ex_size]; omega
 ·rw [ex_size]; omega
theorem nx_le (h : 0 < s.size) (hn : nextL (by_ s) = (K, N)) : 1 ≤ N ∧ N ≤ s.size := by
 have := nextL_pos (l := by_ s) (fun e => by have h2 : (by_ s).length = s.size := rfl; rw [e] at h2; simp at h2; omega)
 rw [hn] at this
 exact this
theorem st_blank (hf : Fct R g s line col acc) (h : 0 < s.size) (hn : nextL (by_ s) = (0, N)) : Fct R (s.size - N) (s.extract N s.size) line (col + N) acc := by
 obtain ⟨_, f1, f2, f3, f4, f5, f6⟩ := hf
 have := nx_le h hn
 rw [tok_step h, hn, if_neg (show ¬ (0 : Int) < 0 by decide), if_neg (show ¬ (0 : Int) = 4 by decide), if_pos rfl] at f1
 refine ⟨(ex_size s N).symm, ?_, ?_, by omega, ?_, by omega, ?_⟩
 ·rw [f1, ← by_drop]; rfl
 ·rw [ex_size]; omega
 ·rw [ex_size]; omega
 ·rw [ex_size]; omega
theorem st_tok (hf : Fct R g s line col acc) (h : 0 < s.size) (hn : nextL (by_ s) = (K, N)) (k0 : 0 ≤ K) (k4 : K ≠ 4) (kz : K ≠ 0) : Fct R (s.size - N) (s.extract N s.size) line (col + N) (acc ++ [⟨K, (by_ s).take N, line, col⟩]) := by
 obtain ⟨_, f1, f2, f3, f4, f5, f6⟩ := hf
 have := nx_le h hn
 rw [tok_step h, hn, if_neg (by show ¬ K < 0; omega), if_neg k4, if_neg kz] at f1
 refine ⟨(ex_size s N).symm, ?_, ?_, by omega, ?_, by omega, ?_⟩
 ·rw [f1, ← by_drop]; rfl
 ·rw [ex_size]; simp; omega
 ·rw [ex_size]; omega
 ·rw [ex_size]; omega
theorem st_bad (hf : Fct R g s line col acc) (h : 0 < s.size) (hn : nextL (by_ s) = (-1, N)) : R = ([], (line, col), 7) := by
 have f1 := hf.2.1
 rw [tok_step h, hn, if_pos (show (-1 : Int) < 0 by decide)] at f1
 exact f1
theorem st_stop (hf : Fct R g s line col acc) (h : s.size = 0) : R = (acc ++ [⟨5, [], line, col⟩], (0, 0), 0) := by
 have f1 := hf.2.1
 rw [tok_stop h] at f1
 exact f1
end
theorem len_add {α : Type} (l : List α) (t : α) : (l ++ [t]).length = l.length + 1 := by simp
set_option maxRecDepth 100000 in
set_option maxHeartbeats 4000000 in
theorem tokens_core (S : ByteArray) (hS : S.size ≤ 262144) (R : List Tk × (Int × Int) × Int) (hR : Hid (R = tokF S.size (by_ S) 1 1 [])) (w : World) :
  Calls Tryz.prog 88 #[.string S] w fun e w' => tkR R w.heap.size e w' ∧ Below w.heap.size w w' := by
 obtain ⟨i0, hi, hz0, hz1, hz2⟩ := info_parts infoTok
 have hS' : ¬ (262144 : Int) < (S.size : Int) := by omega
 go_enter Tryz.func88, Tryz.ntmps88
 go_wp2_with fail
 clear hS'
 go_loopg [0, 5] S.size (fun g v0 v5 wr => ∃ (s : ByteArray) (line col : Int) (acc : List Tk), v0 = .string s ∧ Hid (Fct R g s line col acc) ∧
   At wr (w.heap.size + 1) 43 #[.int .i64 line, .int .i64 col] ∧ At wr w.heap.size 43 #[.int .i64 0, .int .i64 0] ∧ wr.ownsRow (w.heap.size + 2) 107 4 v5 acc.length (tksC acc) ∧ Below w.heap.size w wr)
 case atStart => exact ⟨S, 1, 1, [], rfl, Lib.hid ⟨rfl, hR.out, by simp; omega, by omega, by omega, by omega, by omega⟩, by (repeat (first | (with_reducible apply At.new'; (focus (simp; done))) | with_reducible apply At.al | with_reducible apply At.drw | with_reducible apply At.dr)), by (repeat (first | (with_reducible apply At.new'; (focus (simp; done))) | with_reducible apply At.al | with_reducible apply At.drw | with_reducible apply At.dr)), World.ownsRow_nil _ _ _ _, (by repeat (first | with_reducible assumption | with_reducible exact Below.refl _ _ | with_reducible refine below_al ?_ _ | with_reducible refine below_drew ?_ | with_reducible refine below_drewN ?_ _ | with_reducible refine below_set ?_ (by dsimp only; omega) _))⟩
 case round =>
  clear hR
  obtain ⟨s, line, col, acc, rfl, hr, ka, kz, hown, HB⟩ := hrel
  by_cases h0 : 0 < s.size
  ·obtain ⟨c, hc⟩ : ∃ c, s[0] = c := ⟨_, rfl⟩
   have ne := ne_of s h0
   have hlen : s.size ≤ 262144 := by have := hr.out; unfold Fct at this; omega
   have hhd : Hid ((by_ s).headD 0 = c) := Lib.hid (by have := (drop_head s 0 h0 c hc).1; rwa [List.drop_zero] at this)
   rcases hKN : nextL (by_ s) with ⟨K, N⟩
   replace hKN := Lib.hid hKN
   go_upto_block 2 with fail
   go_cut [0, 5, 7, 8] (fun v0 v5 k n wn => v0 = .string s ∧ k = .int .i64 K ∧ n = .int .i64 (N : Int) ∧ Hid (0 ≤ K ∧ K ≠ 4) ∧ At wn (w.heap.size + 1) 43 #[.int .i64 line, .int .i64 col] ∧ At wn w.heap.size 43 #[.int .i64 0, .int .i64 0] ∧ wn.ownsRow (w.heap.size + 2) 107 4 v5 acc.length (tksC acc) ∧ Below w.heap.size w wn)
   case first =>
    by_cases c10 : (c.toNat : Int) = 10
    ·have e1 : IntKind.i64.wrap (line + 1) = line + 1 := wrap_in (by have := hr.out; unfold Fct at this; omega)
     have hK4 : Hid (K = 4) := Lib.hid (by have e := hKN.out; rw [nextL_eq _ c hhd.out, if_neg (by omega), if_pos (by omega)] at e; simp at e; exact e.1.symm)
     have La := ka.lt
     obtain ⟨ka0, ka1, ka2, ka3⟩ := ka.two
     go_upto_region 15 with (at_builtin; refine wpList_append_own _ rfl _ _ 103 rfl (w.heap.size + 2) 107 i0 (.agg #[.int .i64 0, .string ByteArray.empty, .int .i64 0, .int .i64 0]) 4 40 Tryz.underlying103 hi hz0 hz1 hz2 rfl (by decide) _ _ _ rfl (World.ownsRow.alloc hown _) ⟨wr.heap.size, 0, none⟩ 1 1 [.int .i64 4, .string ⟨#[]⟩, .int .i64 line, .int .i64 col] rfl rfl (four_cells rfl _ _ _ _) (four_one _ _ _ _) (by have := hr.out; unfold Fct at this; unfold maxLen; omega) (by have := hr.out; unfold Fct at this; omega) (by simp; omega) ?_)
     intro v' w2 hown' hgrow _
     replace ka := At.grown (At.al (ka) _) hgrow (own_ne hown (by omega))
     replace kz := At.grown (At.al (kz) _) hgrow (own_ne hown (by omega))
     replace HB := (below_al HB _).grown hgrow (by have := HB.size; simp; omega) (fun j hj => by have := (hown.lt j hj).1; omega)
     clear hgrow hown ka0 ka1 ka2 ka3 La
     rw [show [Value.int .i64 4, .string ⟨#[]⟩, .int .i64 line, .int .i64 col] = tkC ⟨4, [], line, col⟩ from rfl, ← tksC_add] at hown'
     have La := ka.lt
     obtain ⟨ka0, ka1, ka2, ka3⟩ := ka.two
     go_upto_region 15 with fail
     go_region
     go_wp2_with fail
     generalize hWW : World.drew _ = WW
     have ka' : At WW (w.heap.size + 1) 43 #[.int .i64 (line + 1), .int .i64 1] := by rw [← hWW]; exact At.drw (At.put1 (At.put0 ka _) _)
     have kz' : At WW w.heap.size 43 #[.int .i64 0, .int .i64 0] := by rw [← hWW]; exact At.drw (At.far (At.far kz (by dsimp only; omega) _) (by dsimp only; omega) _)
     have hown2 : WW.ownsRow (w.heap.size + 2) 107 4 v' (acc.length + 1) (tksC (acc ++ [⟨4, [], line, col⟩])) := by rw [← hWW]; exact World.ownsRow.drew (own_set (own_set hown' (by dsimp only; omega) _) (by dsimp only; omega) _)
     have HB' : Below w.heap.size w WW := by rw [← hWW]; exact below_drew (below_set (below_set HB (by dsimp only; omega) _) (by dsimp only; omega) _)
     clear hWW hown' ka kz HB
     clear ka0 ka1 ka2 ka3 La
     go_roundg (s.size - 1)
     case measure => have := hr.out.1; omega
     case rel => exact ⟨s.extract 1 s.size, line + 1, 1, acc ++ [⟨4, [], line, col⟩], rfl, Lib.hid (st_nl hr.out h0 (by rw [hKN.out, hK4.out])), ka', kz', by rw [len_add]; exact hown2, HB'⟩
    by_cases c32 : (c.toNat : Int) = 32
    ·obtain ⟨rfl, rfl⟩ : K = 0 ∧ N = 1 := by have e := hKN.out; rw [nextL_eq _ c hhd.out, if_pos (by omega)] at e; simpa [eq_comm] using e
     go_wp2_with fail
     go_meet
     exact ⟨rfl, rfl, rfl, Lib.hid (by decide), ka, kz, hown, HB⟩
    by_cases c9 : (c.toNat : Int) = 9
    ·obtain ⟨rfl, rfl⟩ : K = 0 ∧ N = 1 := by have e := hKN.out; rw [nextL_eq _ c hhd.out, if_pos (by omega)] at e; simpa [eq_comm] using e
     go_wp2_with fail
     go_meet
     exact ⟨rfl, rfl, rfl, Lib.hid (by decide), ka, kz, hown, HB⟩
    by_cases c35 : (c.toNat : Int) = 35
    ·obtain ⟨rfl, rfl⟩ : K = 0 ∧ N = runL (fun c => decide (c.toNat ≠ 10)) (by_ s) := by have e := hKN.out; rw [nextL_eq _ c hhd.out, if_neg (by omega), if_neg (by omega), if_pos (by omega)] at e; simpa [eq_comm] using e
     have n1 : ((c.toNat : Int) == 32) = false := by simpa using c32
     have n2 : ((c.toNat : Int) == 9) = false := by simpa using c9
     have n3 : ((c.toNat : Int) == 10) = false := by simpa using c10
     have n4 : ((c.toNat : Int) == 35) = true := by simpa using c35
     clear c35
     have HI : Hid (∀ w, Calls Tryz.prog 113 #[.string s, .int .u8 10] w fun e w' => e = .returned (.int .i64 (Lib.indexByte (by_ s) 10)) ∧ w = w') := Lib.hid fun w => (Tryz.strings_IndexByte s 10 w).mono fun _ _ ⟨a, b⟩ => ⟨a, b.symm⟩
     rcases idx_run (by_ s) with ⟨hx, hy⟩ | hx
     ·rw [hx] at HI
      have hy := Lib.hid hy
      clear hx
      go_wp2_with fail
      refine (HI.out _).mono ?_
      rintro e w' ⟨rfl, rfl⟩
      go_wp2_with fail
      go_meet
      exact ⟨rfl, rfl, by rw [hy.out]; rfl, Lib.hid (by decide), ka, kz, hown, HB⟩
     ·rw [hx] at HI
      clear hx
      generalize runL (fun c => decide (c.toNat ≠ 10)) (by_ s) = N at *
      go_wp2_with fail
      refine (HI.out _).mono ?_
      rintro e w' ⟨rfl, rfl⟩
      go_wp2_with fail
      go_meet
      exact ⟨rfl, rfl, rfl, Lib.hid (by decide), ka, kz, hown, HB⟩
    have n1 : ((c.toNat : Int) == 32) = false := by simpa using c32
    have n2 : ((c.toNat : Int) == 9) = false := by simpa using c9
    have n3 : ((c.toNat : Int) == 10) = false := by simpa using c10
    have n4 : ((c.toNat : Int) == 35) = false := by simpa using c35
    have i1 : ¬ (c.toNat = 32 ∨ c.toNat = 9) := by omega
    have i2 : ¬ c.toNat = 10 := by omega
    have i3 : ¬ c.toNat = 35 := by omega
    have HL : Hid (∀ w, Calls Tryz.prog 76 #[.int .u8 (c.toNat : Int)] w fun e w' => e = .returned (.bool (isLet c)) ∧ w = w') := Lib.hid fun w => letter_any c w
    have HD : Hid (∀ w, Calls Tryz.prog 110 #[.int .u8 (c.toNat : Int)] w fun e w' => e = .returned (.bool (isDig c)) ∧ w = w') := Lib.hid fun w => digit_any c w
    cases hL : isLet c
    ·rw [hL] at HL
     cases hD : isDig c
     ·rw [hD] at HD
      have hpre : Hid ((K, N) = if symL (by_ s) = 0 then (-1, 1) else (3, symL (by_ s))) := Lib.hid (by rw [← hKN.out, nextL_eq _ c hhd.out, if_neg i1, if_neg i2, if_neg i3, hL, hD]; rfl)
      have HS : Hid (∀ w, Calls Tryz.prog 115 #[.string s] w fun e w' => e = .returned (.int .i64 (symL (by_ s) : Int)) ∧ Below w.heap.size w w') := Lib.hid fun w => symbol_any s h0 w
      generalize symL (by_ s) = M at *
      clear hL hD i1 i2 i3 c10 c32 c9 c35
      by_cases hM : M = 0
      ·obtain ⟨rfl, rfl⟩ : K = -1 ∧ N = 1 := by have := hpre.out; rw [if_pos hM] at this; simpa using this
       subst hM
       clear hpre
       go_wp2_with fail
       refine (HL.out _).mono ?_
       rintro e w' ⟨rfl, rfl⟩
       go_wp2_with fail
       refine (HD.out _).mono ?_
       rintro e w' ⟨rfl, rfl⟩
       go_wp2_with fail
       refine (HS.out _).mono ?_
       rintro e w1 ⟨rfl, hb1⟩
       replace ka := At.bel ka hb1
       replace kz := At.bel kz hb1
       replace HB := below_then HB hb1
       clear hb1 hown
       have hb := Lib.hid (st_bad hr.out h0 hKN.out)
       have La := ka.lt
       obtain ⟨ka0, ka1, ka2, ka3⟩ := ka.two
       have Lz := kz.lt
       obtain ⟨kz0, kz1, kz2, kz3⟩ := kz.two
       go_upto_region 10 with fail
       go_region
       go_wp2_with fail
       generalize hWW : World.drew _ = WW
       have kz' : At WW w.heap.size 43 #[.int .i64 line, .int .i64 col] := by rw [← hWW]; exact At.drw (At.put1 (At.put0 kz _) _)
       have HB' : Below w.heap.size w WW := by rw [← hWW]; exact below_drew (below_set (below_set HB (Nat.le_refl _) _) (Nat.le_refl _) _)
       clear hWW kz0 kz1 kz2 kz3 kz HB
       clear ka0 ka1 ka2 ka3 La
       have k0 := kz'.c0
       have k1 := kz'.c1
       exact bodyPost_ret (v := .tuple #[.slice none 0 0, .agg #[.int .i64 line, .int .i64 col], .int .i64 7]) (by simp [results, Tryz.results88, go_sem, k0, k1]) rfl ⟨⟨.slice none 0 0, by rw [hb.out], by rw [hb.out]; exact World.ownsRow_nil _ _ _ _⟩, HB'⟩
      ·obtain ⟨rfl, rfl⟩ : K = 3 ∧ N = M := by have := hpre.out; rw [if_neg hM] at this; simpa using this
       have hM1 : ¬ (N : Int) = 0 := by omega
       have hM2 : ((N : Int) == 0) = false := by simpa using hM1
       clear hpre
       go_wp2_with fail
       refine (HL.out _).mono ?_
       rintro e w' ⟨rfl, rfl⟩
       go_wp2_with fail
       refine (HD.out _).mono ?_
       rintro e w' ⟨rfl, rfl⟩
       go_wp2_with fail
       refine (HS.out _).mono ?_
       rintro e w1 ⟨rfl, hb1⟩
       replace ka := At.bel ka hb1
       replace kz := At.bel kz hb1
       replace HB := below_then HB hb1
       replace hown := own_bel hown hb1
       clear hb1
       go_wp2_with fail
       go_meet
       exact ⟨rfl, rfl, rfl, Lib.hid (by decide), ka, kz, hown, HB⟩
     ·rw [hD] at HD
      obtain ⟨rfl, hN⟩ : K = 2 ∧ N = numL (by_ s) := by have e := hKN.out; rw [nextL_eq _ c hhd.out, if_neg i1, if_neg i2, if_neg i3, hL, hD] at e; simpa [eq_comm] using e
      have HN : Hid (∀ w, Calls Tryz.prog 114 #[.string s] w fun e w' => e = .returned (.int .i64 (N : Int)) ∧ w = w') := Lib.hid fun w => by rw [hN]; exact numeral_any s (by omega) w
      clear hL hD hN i1 i2 i3 c10 c32 c9 c35
      go_wp2_with fail
      refine (HL.out _).mono ?_
      rintro e w' ⟨rfl, rfl⟩
      go_wp2_with fail
      refine (HD.out _).mono ?_
      rintro e w' ⟨rfl, rfl⟩
      go_wp2_with fail
      refine (HN.out _).mono ?_
      rintro e w' ⟨rfl, rfl⟩
      go_wp2_with fail
      go_meet
      exact ⟨rfl, rfl, rfl, Lib.hid (by decide), ka, kz, hown, HB⟩
    ·rw [hL] at HL
     have hpre : Hid ((K, N) = if 20 < runL isWrd (by_ s) then (-1, runL isWrd (by_ s)) else (1, runL isWrd (by_ s))) := Lib.hid (by rw [← hKN.out, nextL_eq _ c hhd.out, if_neg i1, if_neg i2, if_neg i3, hL]; rfl)
     have HW : Hid (∀ w, Calls Tryz.prog 77 #[.string s] w fun e w' => e = .returned (.int .i64 (runL isWrd (by_ s) : Int)) ∧ w = w') := Lib.hid fun w => word_any s (by omega) w
     generalize runL isWrd (by_ s) = M at *
     clear hL HD i1 i2 i3 c10 c32 c9 c35
     by_cases hM : 20 < M
     ·obtain ⟨rfl, rfl⟩ : K = -1 ∧ N = M := by have := hpre.out; rw [if_pos hM] at this; simpa using this
      have hM' : (20 : Int) < (N : Int) := by omega
      clear hpre hown
      go_wp2_with fail
      refine (HL.out _).mono ?_
      rintro e w' ⟨rfl, rfl⟩
      go_wp2_with fail
      refine (HW.out _).mono ?_
      rintro e w' ⟨rfl, rfl⟩
      have hb := Lib.hid (st_bad hr.out h0 hKN.out)
      have La := ka.lt
      obtain ⟨ka0, ka1, ka2, ka3⟩ := ka.two
      have Lz := kz.lt
      obtain ⟨kz0, kz1, kz2, kz3⟩ := kz.two
      go_upto_region 23 with fail
      go_region
      go_wp2_with fail
      generalize hWW : World.drew _ = WW
      have kz' : At WW w.heap.size 43 #[.int .i64 line, .int .i64 col] := by rw [← hWW]; exact At.drw (At.put1 (At.put0 kz _) _)
      have HB' : Below w.heap.size w WW := by rw [← hWW]; exact below_drew (below_set (below_set HB (Nat.le_refl _) _) (Nat.le_refl _) _)
      clear hWW kz0 kz1 kz2 kz3 kz HB
      clear ka0 ka1 ka2 ka3 La
      have k0 := kz'.c0
      have k1 := kz'.c1
      exact bodyPost_ret (v := .tuple #[.slice none 0 0, .agg #[.int .i64 line, .int .i64 col], .int .i64 7]) (by simp [results, Tryz.results88, go_sem, k0, k1]) rfl ⟨⟨.slice none 0 0, by rw [hb.out], by rw [hb.out]; exact World.ownsRow_nil _ _ _ _⟩, HB'⟩
     ·obtain ⟨rfl, rfl⟩ : K = 1 ∧ N = M := by have := hpre.out; rw [if_neg hM] at this; simpa using this
      have hM' : ¬ (20 : Int) < (N : Int) := by omega
      clear hpre
      go_wp2_with fail
      refine (HL.out _).mono ?_
      rintro e w' ⟨rfl, rfl⟩
      go_wp2_with fail
      refine (HW.out _).mono ?_
      rintro e w' ⟨rfl, rfl⟩
      go_wp2_with fail
      go_meet
      exact ⟨rfl, rfl, rfl, Lib.hid (by decide), ka, kz, hown, HB⟩
   case rest =>
    clear ka kz hown HB
    obtain ⟨rfl, rfl, rfl, hK, ka, kz, hown, HB⟩ := hcut
    have hN := nx_le h0 hKN.out
    obtain ⟨acc', hac⟩ : ∃ a : List Tk, a = if K = 0 then acc else acc ++ [⟨K, (by_ s).take N, line, col⟩] := ⟨_, rfl⟩
    replace hac := Lib.hid hac
    go_upto_if 68 with fail
    go_cut [5] (fun v wn => At wn (w.heap.size + 1) 43 #[.int .i64 line, .int .i64 col] ∧ At wn w.heap.size 43 #[.int .i64 0, .int .i64 0] ∧ wn.ownsRow (w.heap.size + 2) 107 4 v acc'.length (tksC acc') ∧ Below w.heap.size w wn)
    case first =>
     by_cases hK0 : K = 0
     ·have e := hac.out
      rw [if_pos hK0] at e
      subst e hK0
      go_wp2_with fail
      go_meet
      exact ⟨ka, kz, hown, HB⟩
     ·have e := hac.out
      rw [if_neg hK0] at e
      replace e := Lib.hid e
      have b1 : (K == 0) = false := by simpa using hK0
      have b2 : (K != 0) = true := by simp [hK0]
      have b3 : decide (K = 0) = false := by simp [hK0]
      have q1 : (0 : Int) ≤ (N : Int) := by omega
      have q2 : (N : Int) ≤ (s.size : Int) := by omega
      have La := ka.lt
      obtain ⟨ka0, ka1, ka2, ka3⟩ := ka.two
      go_upto_region 27 with fail
      clear ka0 ka1 ka2 ka3 La
      refine wp_only ?_
      refine wp_region_grow0 7 (by kernel_rfl) (by kernel_rfl) only_panic ?_
      apply Exists.intro
      refine And.intro (fun W' hW' => ?_) ?_
      focus
       have Ka := At.bel ka hW'
       have Ka0 := cell_regrown Ka.c0
       have Ka1 := cell_regrown Ka.c1
       simp only [List.take_succ_cons, List.take_zero]
       repeat (go_big_quiet_step (fail))
       exact wpQuiet_nil rfl
      intro w1 hb1
      replace ka := At.bel ka hb1
      replace kz := At.bel kz hb1
      replace hown := own_bel hown hb1
      replace HB := below_then HB hb1
      clear hb1
      simp only [List.drop_succ_cons, List.drop_zero]
      have La := ka.lt
      go_wp2_with (at_builtin; refine wpList_append_own _ rfl _ _ 103 rfl (w.heap.size + 2) 107 i0 (.agg #[.int .i64 0, .string ByteArray.empty, .int .i64 0, .int .i64 0]) 4 40 Tryz.underlying103 hi hz0 hz1 hz2 rfl (by decide) _ _ _ rfl (World.ownsRow.alloc hown _) ⟨w1.heap.size, 0, none⟩ 1 1 [.int .i64 K, .string (s.extract 0 N), .int .i64 line, .int .i64 col] rfl rfl (four_cells rfl _ _ _ _) (four_one _ _ _ _) (by have := hr.out; unfold Fct at this; unfold maxLen; omega) (by have := hr.out; unfold Fct at this; omega) (by simp; omega) ?_)
      intro v' w2 hown' hgrow _
      replace ka := At.grown (At.al ka _) hgrow (own_ne hown (by omega))
      replace kz := At.grown (At.al kz _) hgrow (own_ne hown (by omega))
      replace HB := (below_al HB _).grown hgrow (by have := HB.size; simp; omega) (fun j hj => by have := (hown.lt j hj).1; omega)
      clear hgrow hown
      have et : [Value.int .i64 K, .string (s.extract 0 N), .int .i64 line, .int .i64 col] = tkC ⟨K, (by_ s).take N, line, col⟩ := by
       show _ = [Value.int .i64 K, .string ⟨((by_ s).take N).toArray⟩, .int .i64 line, .int .i64 col]
       rw [← by_take, by_mk]
      rw [et, ← tksC_add] at hown'
      clear et
      go_wp2_with fail
      go_meet
      exact ⟨ka, kz, by rw [e.out, len_add]; exact hown', HB⟩
    case rest =>
     clear ka kz hown HB
     obtain ⟨ka, kz, hown, HB⟩ := hcut
     have e1 : IntKind.i64.wrap (col + (N : Int)) = col + (N : Int) := wrap_in (by have := hr.out; unfold Fct at this; omega)
     have q1 : (0 : Int) ≤ (N : Int) := by omega
     have q2 : (N : Int) ≤ (s.size : Int) := by omega
     have hF : Hid (Fct R (s.size - N) (s.extract N s.size) line (col + N) acc') := Lib.hid (by
      rw [hac.out]
      split
      ·rename_i h
       exact st_blank hr.out h0 (by rw [hKN.out, h])
      ·rename_i h
       exact st_tok hr.out h0 hKN.out hK.out.1 hK.out.2 h)
     have La := ka.lt
     obtain ⟨ka0, ka1, ka2, ka3⟩ := ka.two
     go_wp2_with fail
     generalize hWW : World.setCell _ _ _ = WW
     have ka' : At WW (w.heap.size + 1) 43 #[.int .i64 line, .int .i64 (col + (N : Int))] := by rw [← hWW]; exact At.put1 ka _
     have kz' : At WW w.heap.size 43 #[.int .i64 0, .int .i64 0] := by rw [← hWW]; exact At.far kz (by dsimp only; omega) _
     have hown2 := own_set hown (p := ⟨w.heap.size + 1, 1, none⟩) (by dsimp only; omega) (.int .i64 (col + (N : Int)))
     rw [hWW] at hown2
     have HB' : Below w.heap.size w WW := by rw [← hWW]; exact below_set HB (by dsimp only; omega) _
     clear hWW ka kz HB hown
     clear ka0 ka1 ka2 ka3 La
     go_roundg (s.size - N)
     case measure => have := hr.out.1; omega
     case rel => exact ⟨s.extract N s.size, line, col + (N : Int), acc', rfl, hF, ka', kz', hown2, HB'⟩
  ·have hz : s.size = 0 := by omega
   have em := em_of s hz
   have hF := Lib.hid (st_stop hr.out hz)
   have Lz := kz.lt
   have La := ka.lt
   obtain ⟨ka0, ka1, ka2, ka3⟩ := ka.two
   go_wp2_with (at_builtin; refine wpList_append_own _ rfl _ _ 103 rfl (w.heap.size + 2) 107 i0 (.agg #[.int .i64 0, .string ByteArray.empty, .int .i64 0, .int .i64 0]) 4 40 Tryz.underlying103 hi hz0 hz1 hz2 rfl (by decide) _ _ _ rfl (World.ownsRow.alloc hown _) ⟨wr.heap.size, 0, none⟩ 1 1 [.int .i64 5, .string ⟨#[]⟩, .int .i64 line, .int .i64 col] rfl rfl (four_cells rfl _ _ _ _) (four_one _ _ _ _) (by have := hr.out; unfold Fct at this; unfold maxLen; omega) (by have := hr.out; unfold Fct at this; omega) (by simp; omega) ?_)
   intro v' w2 hown' hgrow _
   replace ka := At.grown (At.al ka _) hgrow (own_ne hown (by omega))
   replace kz := At.grown (At.al kz _) hgrow (own_ne hown (by omega))
   replace HB := (below_al HB _).grown hgrow (by have := HB.size; simp; omega) (fun j hj => by have := (hown.lt j hj).1; omega)
   rw [show [Value.int .i64 5, .string ⟨#[]⟩, .int .i64 line, .int .i64 col] = tkC ⟨5, [], line, col⟩ from rfl, ← tksC_add] at hown'
   clear hgrow hown ka
   clear ka0 ka1 ka2 ka3 La
   clear Lz
   have Lz := kz.lt
   obtain ⟨kz0, kz1, kz2, kz3⟩ := kz.two
   go_wp2_with fail
   generalize hWW : World.setCell _ _ _ = WW
   have kz' : At WW w.heap.size 43 #[.int .i64 0, .int .i64 0] := by rw [← hWW]; exact At.put1 (At.put0 kz _) _
   have hown2 : WW.ownsRow (w.heap.size + 2) 107 4 v' (acc.length + 1) (tksC (acc ++ [⟨5, [], line, col⟩])) := by rw [← hWW]; exact own_set (own_set hown' (by dsimp only; omega) _) (by dsimp only; omega) _
   have HB' : Below w.heap.size w WW := by rw [← hWW]; exact below_set (below_set HB (Nat.le_refl _) _) (Nat.le_refl _) _
   clear hWW kz0 kz1 kz2 kz3 kz HB hown'
   have k0 := kz'.c0
   have k1 := kz'.c1
   exact bodyPost_ret (v := .tuple #[v', .agg #[.int .i64 0, .int .i64 0], .int .i64 0]) (by simp [results, Tryz.results88, go_sem, k0, k1]) rfl ⟨⟨v', by rw [hF.out], by rw [hF.out, len_add]; exact own_base hown2⟩, HB'⟩
end Go.Proofs.YtccakklnbhcbdaaGreatDoor
