/- Words of my own that every walk of this seat uses: what is kept below a block; regions that draw their order beside calls that make memory; the row's last step for a law that leaves what was there alone. Plain: the tokens of a text. No program in sight. Names: decimal.IsName and the reference's. -/
import Derived.Test.YtjlkbmaigcgnbaaDoorRows
import Derived.WalkKit
import Derived.ProofKit
import Derived.OpenShut
import Derived.BigQuiet
import Derived.Deep.QuietTactic
import Derived.Lib.QuietBelow
import Derived.Lib.Hide
import Derived.Lib.Mul64
import Derived.Deep.LoopGhost
import Derived.Deep.DeepCutAuto
import Derived.Deep.CutBlock
import Derived.Lib.Strings
set_option linter.unusedVariables false
namespace Go.Proofs.YtjlkbmaigcgnbaaDoor
open Go.ChangeShapes Go.WideShapes Go.ChangeAt Go.RowKit
def At (w : World) (g : Nat) (t : TypeId) (cs : Array Value) : Prop := w.heap[g]? = some (.cells cs t (0, 0))
section
variable {w w' : World} {g : Nat} {t : TypeId} {cs : Array Value}
theorem At.lt (h : At w g t cs) : g < w.heap.size := by
  unfold At at h
  exact (Array.getElem?_eq_some_iff.1 h).1
theorem At.c (h : At w g t cs) (i : Nat) : w.cell? ⟨g, i, none⟩ = cs[i]? := cell_of_row w g i cs t (0, 0) h
theorem At.f (h : At w g t cs) (i : Nat) : w.frozen? ⟨g, i, none⟩ = false := by
  unfold At at h
  simp [World.frozen?, h]
theorem At.new (w : World) (t : TypeId) (cs : Array Value) : At (w.alloc (.cells cs t)) w.heap.size t cs := heap_alloc_new w _
theorem At.new' {w : World} {n : Nat} {t : TypeId} {cs : Array Value} (h : n = w.heap.size) : At (w.alloc (.cells cs t)) n t cs := by subst h; exact At.new w t cs
theorem At.two {x y : Value} (h : At w g t #[x, y]) : w.cell? ⟨g, 0, none⟩ = some x ∧ w.cell? ⟨g, 1, none⟩ = some y ∧ w.frozen? ⟨g, 0, none⟩ = false ∧ w.frozen? ⟨g, 1, none⟩ = false := ⟨h.c 0, h.c 1, h.f 0, h.f 1⟩
theorem At.al (h : At w g t cs) (o : Obj) : At (w.alloc o) g t cs := (Below.heap_alloc w o g h.lt).trans h
theorem At.c0 {x y : Value} (h : At w g t #[x, y]) : w.cell? ⟨g, 0, none⟩ = some x := h.c 0
theorem At.c1 {x y : Value} (h : At w g t #[x, y]) : w.cell? ⟨g, 1, none⟩ = some y := h.c 1
theorem At.drw (h : At w g t cs) : At w.drew g t cs := h
theorem At.dr (h : At w g t cs) (n : Nat) : At (w.drewN n) g t cs := h
theorem At.put (h : At w g t cs) (i : Nat) (u : Value) : At (w.setCell ⟨g, i, none⟩ u) g t (cs.setIfInBounds i u) := by
  unfold At at h ⊢
  simp [World.setCell, Array.getElem?_modify, h]
theorem At.far (h : At w g t cs) {p : Addr} (hp : g ≠ p.block) (u : Value) : At (w.setCell p u) g t cs := (Below.heap_setCell w p u g hp).trans h
theorem At.bel (h : At w g t cs) (hb : Below w.heap.size w w') : At w' g t cs := (hb.block g h.lt).trans h
end
theorem ret_bool {a b : Bool} (h : a = b) : Ending.returned (.bool a) = .returned (.bool b) := by rw [h]
theorem below_al {a w : World} (h : Below a.heap.size a w) (o : Obj) : Below a.heap.size a (w.alloc o) := h.alloc h.size o
theorem below_set {a w : World} (h : Below a.heap.size a w) {p : Addr} (hp : a.heap.size ≤ p.block) (u : Value) : Below a.heap.size a (w.setCell p u) := h.setCell hp u
theorem below_drewN {B : Nat} {a w : World} (h : Below B a w) (n : Nat) : Below B a (w.drewN n) := ⟨h.os, h.tape, h.output, h.size, h.block⟩
theorem below_drew {B : Nat} {a w : World} (h : Below B a w) : Below B a w.drew := ⟨h.os, h.tape, h.output, h.size, h.block⟩
theorem below_then {a w w' : World} (h : Below a.heap.size a w) (k : Below w.heap.size w w') : Below a.heap.size a w' := h.trans (k.mono h.size)
section
variable {H : Type} {enc : TypeId × Value → H} {P : Program}
theorem trodAll_below {W W' : World} (hl : laidOutB P = true) (hb : Below W.heap.size W W') : ∀ (ts : List TypeId) (vs : List Value) (ds : List (DataW H)) (ps : List MemPlace),
    (∀ t ∈ ts, P.readableRec t = true ∧ t < P.types.size) → DataW.TrodAll enc P W 0 (fun _ => true) true ts vs ds ps → (∀ x ∈ ps, x.block < W.heap.size) →
    DataW.TrodAll enc P W' 0 (fun b => decide (b < W.heap.size)) true ts vs ds ps
  | [], [], [], _, _, h, _ => h
  | t :: ts, v :: vs, d :: ds, _, ht, ⟨p, q, h1, h2, e⟩, hlt => by
    subst e
    have h0 := ht t (by simp)
    exact ⟨p, q, Below.trod hl h0.1 h0.2 h1 hb (fun x hx => hlt x (by simp [hx])), trodAll_below hl hb ts vs ds q (fun t' ht' => ht t' (by simp [ht'])) h2 (fun x hx => hlt x (by simp [hx])), rfl⟩
  | [], _ :: _, _, _, _, h, _ => h.elim
  | [], [], _ :: _, _, _, h, _ => h.elim
  | _ :: _, [], _, _, _, h, _ => h.elim
  | _ :: _, _ :: _, [], _, _, h, _ => h.elim
theorem law_post {f : Func} {s : ChangeSpec} {W W' : World} {args : Array Value} {ds gs : List (DataW H)} {before : List MemPlace}
    (hl : laidOutB P = true) (hts : ∀ t ∈ f.params.toList, P.readableRec t = true ∧ t < P.types.size) {tb : TypeId} (hr : f.resultTypes = #[tb]) (htb : P.underlying tb = some .bool)
    (hv : s.vars = []) (hW : DataW.Whole enc P f.params.toList s.vars false W args.toList ds gs before)
    (hspec : (s.fn H (ds ++ gs)) = { results := [.lit (.bool true)], args := ds }) (hb : Below W.heap.size W W') :
    s.post enc P f false true false false W args (.bool true) W' := by
  have hlt : ∀ p ∈ before, p.block < W.heap.size := fun p hp => hW.lt p hp
  have hW' := hW
  obtain ⟨p, q, hA, hV, rfl, _, _⟩ := hW
  rw [hv] at hV
  obtain ⟨rfl, rfl⟩ := trodVars_none hV
  refine ⟨ds, [], p ++ [], [], p, [], hW', ?_, ?_, ?_, ?_, fun h => by cases h⟩
  · rw [hspec, hr]
    exact trodAll_mk1 (shut_bool htb _)
  · rw [hspec]
    exact trodAll_below hl hb _ _ _ _ hts hA (fun x hx => hlt x (by simp [hx]))
  · rw [hspec, hv]
    exact rfl
  · exact hb.frame _
end
end Go.Proofs.YtjlkbmaigcgnbaaDoor
set_option linter.unusedVariables false
namespace Go.Proofs.YtjlkbmaigcgnbaaDoor
def isLet (c : UInt8) : Bool := (decide (97 ≤ c.toNat) && decide (c.toNat ≤ 122)) || (decide (65 ≤ c.toNat) && decide (c.toNat ≤ 90))
def isDig (c : UInt8) : Bool := decide (48 ≤ c.toNat) && decide (c.toNat ≤ 57)
def isWrd (c : UInt8) : Bool := isLet c || isDig c || decide (c.toNat = 95)
def runL (p : UInt8 → Bool) (l : List UInt8) : Nat := (l.takeWhile p).length
def runA (p : UInt8 → Bool) (l : List UInt8) (k : Nat) : Nat := k + runL p (l.drop k)
theorem runL_cons (p : UInt8 → Bool) (c : UInt8) (l : List UInt8) : runL p (c :: l) = if p c then runL p l + 1 else 0 := by
  unfold runL
  rw [List.takeWhile_cons]
  split <;> rfl
theorem runL_le (p : UInt8 → Bool) (l : List UInt8) : runL p l ≤ l.length := by
  induction l with
  | nil => simp [runL]
  | cons c l ih => rw [runL_cons]; split <;> simp <;> omega
theorem runA_yes {p : UInt8 → Bool} {l : List UInt8} {k : Nat} (hk : k < l.length) (h : p l[k] = true) : runA p l (k + 1) = runA p l k := by
  unfold runA
  rw [List.drop_eq_getElem_cons hk, runL_cons, if_pos h]
  omega
theorem runA_no {p : UInt8 → Bool} {l : List UInt8} {k : Nat} (hk : k < l.length) (h : p l[k] = false) : runA p l k = k := by
  unfold runA
  rw [List.drop_eq_getElem_cons hk, runL_cons, if_neg (by simp [h])]
  rfl
theorem runA_end {p : UInt8 → Bool} {l : List UInt8} {k : Nat} (hk : l.length ≤ k) : runA p l k = k := by
  unfold runA
  rw [List.drop_eq_nil_of_le hk]
  rfl
theorem runA_zero (p : UInt8 → Bool) (l : List UInt8) : runA p l 0 = runL p l := by simp [runA]
end Go.Proofs.YtjlkbmaigcgnbaaDoor
set_option linter.unusedVariables false
namespace Go.Proofs.YtjlkbmaigcgnbaaDoor
open Go.ChangeShapes Go.WideShapes Go.ChangeAt Go.RowKit
theorem isDig_int (c : UInt8) : isDig c = (decide (48 ≤ (c.toNat : Int)) && decide ((c.toNat : Int) ≤ 57)) := by
  unfold isDig
  congr 1
  · exact decide_eq_decide.2 (by omega)
  · exact decide_eq_decide.2 (by omega)
theorem isLet_int (c : UInt8) : isLet c = (decide (97 ≤ (c.toNat : Int)) && decide ((c.toNat : Int) ≤ 122) || decide (65 ≤ (c.toNat : Int)) && decide ((c.toNat : Int) ≤ 90)) := by
  unfold isLet
  congr 2
  · exact decide_eq_decide.2 (by omega)
  · exact decide_eq_decide.2 (by omega)
  · exact decide_eq_decide.2 (by omega)
  · exact decide_eq_decide.2 (by omega)
theorem digit_any (c : UInt8) (w : World) : Calls Tryd.prog 68 #[.int .u8 (c.toNat : Int)] w fun e w' => e = .returned (.bool (isDig c)) ∧ w = w' := by
  rw [isDig_int]
  generalize (c.toNat : Int) = n
  by_cases h1 : 48 ≤ n <;> by_cases h2 : n ≤ 57 <;> (go_enter Tryd.func68, Tryd.ntmps68; go_wp2; all_goals (go_ret; exact ⟨ret_bool (by simp [*]), rfl⟩))
theorem letter_any (c : UInt8) (w : World) : Calls Tryd.prog 52 #[.int .u8 (c.toNat : Int)] w fun e w' => e = .returned (.bool (isLet c)) ∧ w = w' := by
  rw [isLet_int]
  generalize (c.toNat : Int) = n
  by_cases h1 : 97 ≤ n <;> by_cases h2 : n ≤ 122 <;> by_cases h3 : 65 ≤ n <;> by_cases h4 : n ≤ 90 <;> (go_enter Tryd.func52, Tryd.ntmps52; go_wp2; all_goals (go_ret; exact ⟨ret_bool (by simp [*]), rfl⟩))
abbrev by_ (s : ByteArray) : List UInt8 := s.data.toList
theorem by_len (s : ByteArray) : (by_ s).length = s.size := rfl
theorem isWrd_of {c : UInt8} (h1 : isLet c = false) (h2 : isDig c = false) (h3 : ((c.toNat : Int) == 95) = false) : isWrd c = false := by
  have : ¬ c.toNat = 95 := fun h => by rw [h] at h3; exact absurd h3 (by decide)
  simp [isWrd, h1, h2, this]
theorem isWrd_u {c : UInt8} (h3 : ((c.toNat : Int) == 95) = true) : isWrd c = true := by
  have : c.toNat = 95 := by have := of_decide_eq_true h3; omega
  simp [isWrd, this]
set_option maxRecDepth 100000 in
set_option maxHeartbeats 1000000 in
theorem word_any (s : ByteArray) (hs : s.size ≤ 9223372036854775806) (w : World) : Calls Tryd.prog 53 #[.string s] w fun e w' => e = .returned (.int .i64 (runL isWrd (by_ s) : Int)) ∧ w = w' := by
  go_enter Tryd.func53, Tryd.ntmps53
  go_wp2
  go_loopg [3] (s.size - 0) (fun g i wr => ∃ k : Nat, 0 ≤ k ∧ k ≤ s.size ∧ i = .int .i64 (k : Int) ∧ Hid (g = s.size - k ∧ runA isWrd (by_ s) k = runL isWrd (by_ s)) ∧ w = wr)
  case atStart => exact ⟨0, Nat.le_refl _, Nat.zero_le _, rfl, Lib.hid ⟨rfl, runA_zero _ _⟩, rfl⟩
  case round =>
    obtain ⟨k, hak, hk, rfl, hr, rfl⟩ := hrel
    by_cases hlt : k < s.size
    · obtain ⟨c, hc⟩ : ∃ c, s[k] = c := ⟨_, rfl⟩
      have hc' : Hid ((by_ s)[k]'hlt = c) := Lib.hid hc
      have HL : Hid (∀ w, Calls Tryd.prog 52 #[.int .u8 (c.toNat : Int)] w fun e w' => e = .returned (.bool (isLet c)) ∧ w = w') := Lib.hid fun w => letter_any c w
      have HD : Hid (∀ w, Calls Tryd.prog 68 #[.int .u8 (c.toNat : Int)] w fun e w' => e = .returned (.bool (isDig c)) ∧ w = w') := Lib.hid fun w => digit_any c w
      cases hL : isLet c
      · rw [hL] at HL
        cases hD : isDig c
        · rw [hD] at HD
          cases hU : ((c.toNat : Int) == 95)
          · have hw := Lib.hid (isWrd_of hL hD hU)
            clear hL hD
            go_wp2_with fail
            refine (HL.out _).mono ?_
            rintro e w' ⟨rfl, rfl⟩
            go_wp2_with fail
            refine (HD.out _).mono ?_
            rintro e w' ⟨rfl, rfl⟩
            have hR : runL isWrd (by_ s) = k := by rw [← hr.out.2]; exact runA_no hlt (by rw [hc'.out]; exact hw.out)
            go_wp2_with fail
            go_ret
            exact ⟨by rw [hR]; rfl, rfl⟩
          · have hw := Lib.hid (isWrd_u hU)
            clear hL hD
            go_wp2_with fail
            refine (HL.out _).mono ?_
            rintro e w' ⟨rfl, rfl⟩
            go_wp2_with fail
            refine (HD.out _).mono ?_
            rintro e w' ⟨rfl, rfl⟩
            go_wp2_with fail
            go_roundg (s.size - (k + 1))
            case measure => have := hr.out.1; omega
            case rel => exact ⟨k + 1, by omega, by omega, by go_num, Lib.hid ⟨rfl, by rw [runA_yes hlt (by rw [hc'.out]; exact hw.out)]; exact hr.out.2⟩, rfl⟩
        · rw [hD] at HD
          have hw : Hid (isWrd c = true) := Lib.hid (by simp [isWrd, hD])
          clear hL hD
          go_wp2_with fail
          refine (HL.out _).mono ?_
          rintro e w' ⟨rfl, rfl⟩
          go_wp2_with fail
          refine (HD.out _).mono ?_
          rintro e w' ⟨rfl, rfl⟩
          go_wp2_with fail
          go_roundg (s.size - (k + 1))
          case measure => have := hr.out.1; omega
          case rel => exact ⟨k + 1, by omega, by omega, by go_num, Lib.hid ⟨rfl, by rw [runA_yes hlt (by rw [hc'.out]; exact hw.out)]; exact hr.out.2⟩, rfl⟩
      · rw [hL] at HL
        have hw : Hid (isWrd c = true) := Lib.hid (by simp [isWrd, hL])
        clear hL
        go_wp2_with fail
        refine (HL.out _).mono ?_
        rintro e w' ⟨rfl, rfl⟩
        go_wp2_with fail
        go_roundg (s.size - (k + 1))
        case measure => have := hr.out.1; omega
        case rel => exact ⟨k + 1, by omega, by omega, by go_num, Lib.hid ⟨rfl, by rw [runA_yes hlt (by rw [hc'.out]; exact hw.out)]; exact hr.out.2⟩, rfl⟩
    · have hR : runL isWrd (by_ s) = k := by rw [← hr.out.2]; exact runA_end (by rw [by_len]; omega)
      go_wp2_with fail
      go_ret
      exact ⟨by rw [hR]; rfl, rfl⟩
theorem ne_of (s : ByteArray) (h : 0 < s.size) : s.toList.isEmpty = false := by
  rw [Lib.toList_data]
  cases e : s.data.toList with
  | nil => rw [Lib.size_eq, e] at h; simp at h
  | cons _ _ => rfl
theorem em_of (s : ByteArray) (h : s.size = 0) : s.toList.isEmpty = true := by
  rw [Lib.toList_data, List.isEmpty_iff]
  exact List.length_eq_zero_iff.1 (by rw [← Lib.size_eq]; exact h)
theorem drop_head (s : ByteArray) (i : Nat) (h : i < s.size) (c : UInt8) (hc : s[i] = c) : ((by_ s).drop i).headD 0 = c ∧ (by_ s).drop i ≠ [] := by
  have e : (by_ s).drop i = (by_ s)[i]'h :: (by_ s).drop (i + 1) := List.drop_eq_getElem_cons h
  have : (by_ s)[i]'h = c := hc
  rw [e, this]
  exact ⟨rfl, by simp⟩
def nameB (l : List UInt8) : Bool := !l.isEmpty && decide (l.length ≤ 20) && isLet (l.headD 0) && decide (runL isWrd l = l.length)
set_option maxRecDepth 100000 in
set_option maxHeartbeats 1000000 in
theorem isName_any (s : ByteArray) (hs : s.size ≤ 9223372036854775806) (w : World) :
    Calls Tryd.prog 33 #[.string s] w fun e w' => e = .returned (.bool (nameB (by_ s))) ∧ w = w' := by
  obtain ⟨b, hb⟩ : ∃ b, nameB (by_ s) = b := ⟨_, rfl⟩
  rw [hb]
  unfold nameB at hb
  by_cases h0 : s.size = 0
  · have hE : Hid (b = false) := Lib.hid (by
      have : by_ s = [] := List.length_eq_zero_iff.1 (by rw [by_len]; exact h0)
      rw [← hb, this]; rfl)
    have em := em_of s h0
    clear hb
    go_enter Tryd.func33, Tryd.ntmps33
    go_wp2_with fail
    go_ret
    exact ⟨by rw [hE.out]; rfl, rfl⟩

  have hp : 0 < s.size := Nat.pos_of_ne_zero h0
  have ne := ne_of s hp
  have hl : (by_ s).length = s.size := rfl
  have hne : (by_ s).isEmpty = false := by rw [← ne, Lib.toList_data]
  rw [hne, hl] at hb
  by_cases h1 : s.size ≤ 20
  · obtain ⟨c, hc⟩ : ∃ c, s[0]'hp = c := ⟨_, rfl⟩
    have hhd := (drop_head s 0 hp c hc).1
    rw [List.drop_zero] at hhd
    rw [hhd] at hb
    have z1 : ((s.size : Int) == 0) = false := by rw [beq_eq_false_iff_ne]; omega
    have z2 : decide ((20 : Int) < (s.size : Int)) = false := by simp; omega
    have HL := Lib.hid (fun w => letter_any c w)
    cases hL : isLet c
    · have hE : Hid (b = false) := Lib.hid (by rw [← hb, hL]; simp)
      rw [hL] at HL
      clear hb hL hhd hne hl
      go_enter Tryd.func33, Tryd.ntmps33
      go_wp2_with fail
      refine (HL.out _).mono ?_
      rintro e w' ⟨rfl, rfl⟩
      go_wp2_with fail
      go_ret
      exact ⟨by rw [hE.out]; rfl, rfl⟩

    · rw [hL] at HL
      have HW := Lib.hid (fun w => word_any s hs w)
      have hw := runL_le isWrd (by_ s)
      rw [hl] at hw
      by_cases h2 : runL isWrd (by_ s) = s.size
      · have hE : Hid (b = true) := Lib.hid (by rw [← hb, hL, h2]; simp [h1])
        rw [h2] at HW
        clear hb hL hhd hne hl hw
        go_enter Tryd.func33, Tryd.ntmps33
        go_wp2_with fail
        refine (HL.out _).mono ?_
        rintro e w' ⟨rfl, rfl⟩
        go_wp2_with fail
        refine (HW.out _).mono ?_
        rintro e w' ⟨rfl, rfl⟩
        go_wp2_with fail
        go_ret
        exact ⟨by rw [hE.out]; rfl, rfl⟩

      · have hE : Hid (b = false) := Lib.hid (by rw [← hb]; simp [h2])
        generalize runL isWrd (by_ s) = M at *
        have h3 : ¬ (M : Int) = (s.size : Int) := by omega
        have h4 : ((M : Int) == (s.size : Int)) = false := by simpa using h3
        clear hb hL hhd hne hl hw h2
        go_enter Tryd.func33, Tryd.ntmps33
        go_wp2_with fail
        refine (HL.out _).mono ?_
        rintro e w' ⟨rfl, rfl⟩
        go_wp2_with fail
        refine (HW.out _).mono ?_
        rintro e w' ⟨rfl, rfl⟩
        go_wp2_with fail
        go_ret
        exact ⟨by rw [hE.out]; rfl, rfl⟩

  · have hE : Hid (b = false) := Lib.hid (by rw [← hb]; simp [h1])
    have z1 : ((s.size : Int) == 0) = false := by rw [beq_eq_false_iff_ne]; omega
    have z2 : decide ((20 : Int) < (s.size : Int)) = true := by simp; omega
    clear hb hne hl
    go_enter Tryd.func33, Tryd.ntmps33
    go_wp2_with fail
    go_ret
    exact ⟨by rw [hE.out]; rfl, rfl⟩
end Go.Proofs.YtjlkbmaigcgnbaaDoor
