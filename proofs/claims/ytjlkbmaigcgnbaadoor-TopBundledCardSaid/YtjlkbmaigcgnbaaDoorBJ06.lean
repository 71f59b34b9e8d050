/- A region that draws its order: reads and calls that only make memory, in whatever order beside allocations of new blocks; then a tail in one order. The reads and calls are walked once. -/
import Derived.Test.YtjlkbmaigcgnbaaDoorBJ05
import Derived.StillTail
set_option linter.unusedVariables false
namespace Go.Proofs.YtjlkbmaigcgnbaaDoor
open Go.ChangeShapes Go.WideShapes Go.ChangeAt Go.RowKit
def Gr (w w' : World) : Prop := Below w.heap.size w w'
theorem Gr.refl (w : World) : Gr w w := Below.refl _ _
theorem Gr.trans {a b c : World} (h : Gr a b) (k : Gr b c) : Gr a c := below_then h k
section
variable {P : Program} {ops : Array Oper} {Q : Exit → Act → World → Prop} {md : Region.Mode} {n : Nat}
def anyE (P : Program) (md : Region.Mode) (ops : Array Oper) (Q : Exit → Act → World → Prop) (n : Nat) : Nat → Array Bool → Act → World → Prop
  | 0, listed, a, w => ∀ w', Gr w w' → wpAny P md ops Q 0 listed a w'
  | f + 1, listed, a, w => ∀ w', Gr w w' → (Region.ready md ops listed = [] → Q .normal a w') ∧ ∀ i ∈ Region.ready md ops listed,
      (i < n → wpOp P ops Q i (fun a' w1 => Gr w' w1 ∧ anyE P md ops Q n f (listed.setIfInBounds i true) a' w1) a w') ∧
      (n ≤ i → wpOp P ops Q i (wpAny P md ops Q f (listed.setIfInBounds i true)) a w')
theorem anyE_mono {f : Nat} {listed : Array Bool} {a : Act} {w w' : World} (h : anyE P md ops Q n f listed a w) (g : Gr w w') : anyE P md ops Q n f listed a w' := by
  cases f with
  | zero => exact fun x hx => h x (g.trans hx)
  | succ f => exact fun x hx => h x (g.trans hx)
theorem any_of_E : ∀ (f : Nat) (listed : Array Bool) (a : Act) (w : World), anyE P md ops Q n f listed a w → wpAny P md ops Q f listed a w
  | 0, _, _, w, h => h w (Gr.refl w)
  | f + 1, listed, a, w, h => by
    obtain ⟨h0, h1⟩ := h w (Gr.refl w)
    refine ⟨h0, fun i hi => ?_⟩
    rcases Nat.lt_or_ge i n with k | k
    · exact wpOp_mono (fun a' w' hh => any_of_E f _ a' w' hh.2) ((h1 i hi).1 k)
    · exact (h1 i hi).2 k
def Closed (md : Region.Mode) (ops : Array Oper) (listed : Array Bool) : Prop :=
  ∀ j oj, ops[j]? = some oj → listed.getD j false = true → ∀ e ∈ oj.after, Region.binds md e = true → listed.getD e.on false = true
theorem Closed.set {listed : Array Bool} {i : Nat} (h : Closed md ops listed) (hi : i ∈ Region.ready md ops listed) : Closed md ops (listed.setIfInBounds i true) := by
  obtain ⟨_, oi, hoi, hall⟩ := mem_ready.1 hi
  intro j oj hj hl e he hb
  by_cases hij : i = j
  · subst hij
    have : oj = oi := Option.some.inj (hj.symm.trans hoi)
    subst this
    exact getD_set_true (hall e he hb)
  · rw [getD_set_ne false hij] at hl
    exact getD_set_true (h j oj hj hl e he hb)
def waitsT (md : Region.Mode) (ops : Array Oper) : Nat → Nat → Nat → Bool
  | 0, _, _ => false
  | f + 1, j, i => match ops[j]? with
    | some o => o.after.any fun e => Region.binds md e && (e.on == i || waitsT md ops f e.on i)
    | none => false
theorem waitsT_spec {listed : Array Bool} (hc : Closed md ops listed) : ∀ (f j i : Nat) (oj : Oper), ops[j]? = some oj →
    (∀ e ∈ oj.after, Region.binds md e = true → listed.getD e.on false = true) → waitsT md ops f j i = true → listed.getD i false = true
  | 0, _, _, _, _, _, h => by simp [waitsT] at h
  | f + 1, j, i, oj, hj, hall, h => by
    simp only [waitsT, hj] at h
    obtain ⟨e, he, hb⟩ := Array.any_eq_true'.1 h
    simp only [Bool.and_eq_true, Bool.or_eq_true, beq_iff_eq] at hb
    have h1 := hall e he hb.1
    rcases hb.2 with h2 | h2
    · rw [← h2]; exact h1
    · cases ho : ops[e.on]? with
      | none => cases f <;> simp [waitsT, ho] at h2
      | some o => exact waitsT_spec hc f e.on i o ho (fun e' he' hb' => hc e.on o ho h1 e' he' hb') h2
def YieldsG (P : Program) (ops : Array Oper) (W : World) (o : Oper) (v : Value) (a : Act) : Prop :=
  ∀ w, Gr W w → (Region.wanted o (yielded ops a.tmps) = true ∧ o.quietAt P a (Gr w) w v) ∨ (Region.wanted o (yielded ops a.tmps) = false ∧ v = undef)
theorem YieldsG.of_same {W : World} {o : Oper} {v : Value} {a a' : Act} (hy : YieldsG P ops W o v a) (he : execOp a'.eval o = execOp a.eval o)
    (hw : Region.wanted o (yielded ops a'.tmps) = Region.wanted o (yielded ops a.tmps)) : YieldsG P ops W o v a' := by
  unfold YieldsG Oper.quietAt at *
  rw [he, hw]
  exact hy
theorem YieldsG.grow {W W' : World} {o : Oper} {v : Value} {a : Act} (hy : YieldsG P ops W o v a) (g : Gr W W') : YieldsG P ops W' o v a := fun w hw => hy w (g.trans hw)
theorem YieldsG.wpOp {W : World} {i : Nat} {o : Oper} {v : Value} {a : Act} {w : World} (hi : ops[i]? = some o) (hy : YieldsG P ops W o v a) (hW : Gr W w)
    {K : Act → World → Prop} (h : ∀ w', Gr w w' → K (a.put o.dst v) w') : wpOp P ops Q i K a w := by
  unfold Go.wpOp
  simp only [hi]
  rcases hy w hW with ⟨hw, hv⟩ | ⟨hw, rfl⟩
  · simp only [hw, if_true]
    refine .inl ?_
    unfold Oper.quietAt at hv
    unfold Oper.wp
    generalize (execOp a.eval o).run P w = r at *
    cases r with
    | ok x w' =>
      cases x <;> simp only [Oper.quietUpon] at hv <;> simp only [Oper.upon]
      case value u => obtain ⟨rfl, rfl⟩ := hv; exact h _ (Gr.refl _)
      case skip => obtain ⟨rfl, rfl⟩ := hv; exact h _ (Gr.refl _)
      case enter f args =>
        obtain ⟨rfl, hc⟩ := hv
        exact hc.mono fun e w'' ⟨he, hw''⟩ => by subst he; exact h _ hw''
    | halt x w' => simp only [Oper.quietUpon] at hv
  · simp only [hw, Bool.false_eq_true, if_false]
    exact h _ (Gr.refl _)
theorem wpOp_swap {j : Nat} {oi oj : Oper} {v : Value} (Y : Act → Prop) (hj : ops[j]? = some oj) (hap : oi.apart ops oj = true)
    (hsj : ∀ cs b, oj.op ≠ .select cs b) (keep : ∀ a, Y a → ∀ u, Y (a.put oj.dst u)) (keepD : ∀ a, Y a → ∀ d, Y { a with defers := d :: a.defers })
    (hQ : ∀ c a w, Q (.panic c) (a.put oi.dst v) w → Q (.panic c) a w) {K : Act → World → Prop} {a : Act} {w : World}
    (hy : Y a) (h : wpOp P ops Q j K (a.put oi.dst v) w) : wpOp P ops Q j (fun a' w' => Y a' ∧ K (a'.put oi.dst v) w') a w := by
  obtain ⟨h1, h2, _⟩ := Oper.apart_spec hap
  unfold Go.wpOp at *
  simp only [hj] at *
  rw [wanted_put oj a oi.dst v h1] at h
  by_cases hw : Region.wanted oj (yielded ops a.tmps) = true
  · simp only [hw, if_true] at h ⊢
    rcases h with h | ⟨hasks, hlets⟩
    · refine .inl ?_
      unfold Oper.wp at *
      rw [execOp_put oj hsj a oi.dst v h1] at h
      generalize (execOp a.eval oj).run P w = r at *
      cases r with
      | ok x w' =>
        cases x <;> simp only [Oper.upon] at h ⊢
        case value u => exact ⟨keep a hy u, by rw [← Act.put_comm a v u h2]; exact h⟩
        case skip => exact ⟨keep a hy _, by rw [← Act.put_comm a v undef h2]; exact h⟩
        case defer d =>
          refine ⟨keep _ (keepD a hy d) _, ?_⟩
          rw [← Act.put_comm _ v undef h2, ← Act.put_defers]
          exact h
        case enter f args =>
          refine Calls.mono h fun e w'' he => ?_
          cases e with
          | returned u => exact ⟨keep a hy u, by rw [← Act.put_comm a v u h2]; exact he⟩
          | panicked c => exact hQ _ _ _ he
          | outgrown => exact he
        case row row args => exact Rows.mono h fun u w'' he => ⟨keep a hy u, by rw [← Act.put_comm a v u h2]; exact he⟩
      | halt x w' =>
        cases x <;> simp only [Oper.upon] at h ⊢
        case panic u => exact hQ _ _ _ h
    · exact .inr ⟨by unfold Oper.asks at *; rw [execOp_put oj hsj a oi.dst v h1] at hasks; exact hasks, hlets⟩
  · rw [Bool.not_eq_true] at hw
    simp only [hw, Bool.false_eq_true, if_false] at h ⊢
    exact ⟨keep a hy _, by rw [← Act.put_comm a v undef h2]; exact h⟩
def floaty (o : Oper) : Bool := match o.op with | .move _ | .assign _ | .extract .. => true | _ => false
theorem floaty_run {o : Oper} (hf : floaty o = true) {ρ : Operand → Value} {w w1 : World} {u : Value} (h : (execOp ρ o).run P w = .ok (.value u) w1) (x : World) : (execOp ρ o).run P x = .ok (.value u) x := by
  unfold floaty at hf
  cases ho : o.op <;> rw [ho] at hf <;> try (cases hf; done)
  case move y => rw [BigFrame.run_move y ho] at h ⊢; cases h; rfl
  case assign y => rw [BigFrame.run_assign y ho] at h ⊢; cases h; rfl
  case extract t ix =>
    unfold execOp at h ⊢
    simp only [ho] at h ⊢
    cases hv : ρ t <;> simp only [hv, Instr.extract] at h ⊢ <;> try (cases h; done)
    case tuple vs =>
      cases hx : vs[ix]? with
      | none => simp only [hx] at h; cases h
      | some y => simp only [hx] at h ⊢; cases h; rfl
theorem YieldsG.float {W : World} {o : Oper} {v : Value} {a : Act} (hf : floaty o = true) (hy : YieldsG P ops W o v a) : Yields P ops o v a := by
  rcases hy W (Gr.refl W) with ⟨hw, hv⟩ | h
  · refine .inl ⟨hw, ?_⟩
    unfold Oper.quietAt at hv
    generalize hr : (execOp a.eval o).run P W = r at hv
    cases r with
    | ok x w' =>
      cases x <;> simp only [Oper.quietUpon] at hv
      case value u => rw [← hv.2]; exact floaty_run hf hr
      case skip =>
        unfold floaty at hf
        cases ho : o.op <;> rw [ho] at hf <;> try (cases hf; done)
        case move y => rw [BigFrame.run_move y ho] at hr; cases hr
        case assign y => rw [BigFrame.run_assign y ho] at hr; cases hr
        case extract t ix =>
          unfold execOp at hr
          simp only [ho] at hr
          cases hv : a.eval t <;> simp only [hv, Instr.extract] at hr <;> try (cases hr; done)
          case tuple vs => cases hx : vs[ix]? with
            | none => simp only [hx] at hr; cases hr
            | some y => simp only [hx] at hr; cases hr
      case enter f args =>
        unfold floaty at hf
        cases ho : o.op <;> rw [ho] at hf <;> try (cases hf; done)
        case move y => rw [BigFrame.run_move y ho] at hr; cases hr
        case assign y => rw [BigFrame.run_assign y ho] at hr; cases hr
        case extract t ix =>
          unfold execOp at hr
          simp only [ho] at hr
          cases hv : a.eval t <;> simp only [hv, Instr.extract] at hr <;> try (cases hr; done)
          case tuple vs => cases hx : vs[ix]? with
            | none => simp only [hx] at hr; cases hr
            | some y => simp only [hx] at hr; cases hr
    | halt x w' => simp only [Oper.quietUpon] at hv
  · exact .inr h
theorem anyE_first {i : Nat} {oi : Oper} {v : Value} (hi : ops[i]? = some oi) (hin : i < n) (hsel : ∀ (j : Nat) (o : Oper) cs b, ops[j]? = some o → o.op ≠ .select cs b)
    (hQ : ∀ c a w, Q (.panic c) (a.put oi.dst v) w → Q (.panic c) a w) (ht : (∀ j, n ≤ j → j < ops.size → waitsT md ops ops.size j i = true) ∨ floaty oi = true) :
    ∀ (f : Nat) (listed : Array Bool) (a : Act) (W : World), Closed md ops listed →
      (∀ j oj, ops[j]? = some oj → j ≠ i → listed.getD j true = false → (∀ e ∈ oj.after, Region.binds md e = true → e.on ≠ i) → oi.apart ops oj = true) →
      i ∈ Region.ready md ops listed → YieldsG P ops W oi v a →
      anyE P md ops Q n f (listed.setIfInBounds i true) (a.put oi.dst v) W → anyE P md ops Q n (f + 1) listed a W := by
  intro f
  induction f with
  | zero =>
    intro listed a W hc hfree hr hy H w hw
    refine ⟨fun h => (by rw [h] at hr; cases hr), fun j hj => ?_⟩
    by_cases hji : j = i
    · subst hji
      exact ⟨fun _ => hy.wpOp hi hw fun w' g => ⟨g, anyE_mono H (hw.trans g)⟩, fun h => absurd h (by omega)⟩
    · have := ready_mono hj hji
      rw [(H w hw).1] at this
      cases this
  | succ f ih =>
    intro listed a W hc hfree hr hy H w hw
    refine ⟨fun h => (by rw [h] at hr; cases hr), fun j hj => ?_⟩
    by_cases hji : j = i
    · subst hji
      exact ⟨fun _ => hy.wpOp hi hw fun w' g => ⟨g, anyE_mono H (hw.trans g)⟩, fun h => absurd h (by omega)⟩
    · obtain ⟨hjun, oj, hoj, hall⟩ := mem_ready.1 hj
      have hiun : listed.getD i false = false := by
        have h0 := (mem_ready.1 hr).1
        rcases Nat.lt_or_ge i listed.size with h' | h'
        · simp [h'] at h0 ⊢; exact h0
        · simp [Array.getElem?_eq_none h'] at h0
      have hfree' : ∀ k ok, ops[k]? = some ok → k ≠ i → (listed.setIfInBounds j true).getD k true = false →
          (∀ e ∈ ok.after, Region.binds md e = true → e.on ≠ i) → oi.apart ops ok = true := fun k ok hk hki hun hno => by
        refine hfree k ok hk hki ?_ hno
        by_cases hjk : j = k
        · subst hjk; exact hjun
        · rw [getD_set_ne true hjk] at hun; exact hun
      refine ⟨fun hjn => ?_, fun hjn => ?_⟩
      · have hnot : ∀ e ∈ oj.after, Region.binds md e = true → e.on ≠ i := fun e he hb heq => by
          have h1 := hall e he hb
          rw [heq, hiun] at h1
          cases h1
        have h1 := ((H w hw).2 j (ready_mono hj hji)).1 hjn
        have hap := hfree j oj hoj hji hjun hnot
        obtain ⟨_, _, h3⟩ := Oper.apart_spec hap
        have h2 := wpOp_swap (Y := YieldsG P ops W oi v) hoj hap (fun cs b => hsel j oj cs b hoj)
          (fun a hy u => hy.of_same (execOp_put oi (fun cs b => hsel i oi cs b hi) a oj.dst u h3) (wanted_put oi a oj.dst u h3)) (fun a hy d => hy.of_same rfl rfl) hQ hy h1
        refine wpOp_mono (fun a' w' h3 => ⟨h3.2.1, ih (listed.setIfInBounds j true) a' w' (hc.set hj) hfree' (ready_mono hr (Ne.symm hji)) (h3.1.grow (hw.trans h3.2.1)) ?_⟩) h2
        rw [Array.setIfInBounds_comm _ _ hji]
        exact h3.2.2
      · have hlt : j < ops.size := (Array.getElem?_eq_some_iff.1 hoj).1
        rcases ht with ht | ht
        · have := waitsT_spec hc _ j i oj hoj hall (ht j hjn hlt)
          rw [hiun] at this
          cases this
        · have hyy := hy.float ht
          have hnot : ∀ e ∈ oj.after, Region.binds md e = true → e.on ≠ i := fun e he hb heq => by
            have h1 := hall e he hb
            rw [heq, hiun] at h1
            cases h1
          have h1 := ((H w hw).2 j (ready_mono hj hji)).2 hjn
          have hap := hfree j oj hoj hji hjun hnot
          obtain ⟨_, _, h3⟩ := Oper.apart_spec hap
          have h2 := wpOp_swap (Y := Yields P ops oi v) hoj hap (fun cs b => hsel j oj cs b hoj)
            (fun a hy u => hy.of_same (execOp_put oi (fun cs b => hsel i oi cs b hi) a oj.dst u h3) (wanted_put oi a oj.dst u h3)) (fun a hy d => hy.of_same rfl rfl) hQ hyy h1
          refine wpOp_mono (fun a' w' h3 => wpAny_first hi hsel hQ f (listed.setIfInBounds j true) a' w' hfree' (ready_mono hr (Ne.symm hji)) h3.1 ?_) h2
          rw [Array.setIfInBounds_comm _ _ hji]
          exact h3.2
def growB (md : Region.Mode) (ops : Array Oper) (n : Nat) : Nat → Nat → Array Bool → Bool
  | 0, _, _ => true
  | f + 1, k, listed => decide (k < n) && (Region.ready md ops listed).contains k && Region.free md ops listed k &&
      (((List.range ops.size).all fun j => decide (j < n) || waitsT md ops ops.size j k) || ((ops[k]?).map floaty).getD false) && growB md ops n f (k + 1) (listed.setIfInBounds k true)
def dstsB (size : Nat) : List Oper → Bool
  | [] => true
  | o :: rest => (match o.dst with
    | some d => decide (d < size) && rest.all fun x => x.dst != some d
    | none => false) && dstsB size rest
theorem put_getD_ne {a : Act} {d e : Tmp} {v : Value} (h : e ≠ d) : (a.put (some e) v).tmps.getD d undef = a.tmps.getD d undef := by
  simp [Act.put, Array.getElem?_setIfInBounds_ne h]
theorem put_getD {a : Act} {d : Tmp} {v : Value} (h : d < a.tmps.size) : (a.put (some d) v).tmps.getD d undef = v := by
  simp [Act.put, h]
theorem put_size {a : Act} {d : Option Tmp} {v : Value} : (a.put d v).tmps.size = a.tmps.size := by
  cases d <;> simp [Act.put]
theorem quiet_keeps {C : World → Prop} {aF : Act} {d : Tmp} : ∀ (l : List Oper) (a : Act), (l.all fun x => x.dst != some d) = true →
    wpQuiet P ops C (fun a' => a' = aF) l a → aF.tmps.getD d undef = a.tmps.getD d undef
  | [], a, _, h => by cases h; rfl
  | o :: l, a, hl, h => by
    simp only [List.all_cons, Bool.and_eq_true, bne_iff_ne, ne_eq] at hl
    have key : ∀ v, wpQuiet P ops C (fun a' => a' = aF) l (a.put o.dst v) → aF.tmps.getD d undef = a.tmps.getD d undef := fun v hv => by
      rw [quiet_keeps l _ hl.2 hv]
      cases hd : o.dst with
      | none => rfl
      | some e => exact put_getD_ne (fun h => hl.1 (by rw [hd, h]))
    unfold wpQuiet at h
    split at h
    · obtain ⟨v, _, hv⟩ := h
      exact key v hv
    · exact key _ h
def RG (w : World) (x : World) : Prop := ∃ p : Regrown, x = Go.Sort.grow (redrawn w p.d) p.os
theorem rg_gr {w x : World} (h : RG w x) : Gr w x := by
  obtain ⟨p, rfl⟩ := h
  exact below_regrown _ _ _
theorem rg_self (w : World) : RG w w := regrown_of_below (Below.refl _ _)
theorem quietAt_rg {o : Oper} {a : Act} {w : World} {v : Value} (h : o.quietAt P a (RG w) w v) : o.quietAt P a (Gr w) w v := by
  unfold Oper.quietAt at *
  generalize (execOp a.eval o).run P w = r at *
  cases r with
  | ok x w' =>
    cases x <;> simp only [Oper.quietUpon] at h ⊢
    case value u => exact h
    case skip => exact h
    case enter f args => exact ⟨h.1, h.2.mono fun _ _ ⟨he, hc⟩ => ⟨he, rg_gr hc⟩⟩
  | halt x w' => simp only [Oper.quietUpon] at h
theorem anyE_lex {aF : Act} (hsel : Region.noSelect ops = true) (hQ : ∀ c a (d : Option Tmp) v w, Q (.panic c) (a.put d v) w → Q (.panic c) a w) (f : Nat) {listedF : Array Bool} :
    ∀ (l : List Oper) (k : Nat) (listed : Array Bool) (a : Act) (W : World), (∀ j, j < l.length → l[j]? = ops[k + j]?) → growB md ops n l.length k listed = true → Closed md ops listed →
      dstsB a.tmps.size l = true → (List.range l.length).foldl (fun L j => L.setIfInBounds (k + j) true) listed = listedF →
      (∀ W', Gr W W' → wpQuiet P ops (RG W') (fun a' => a' = aF) l a) →
      anyE P md ops Q n f listedF aF W → anyE P md ops Q n (f + l.length) listed a W
  | [], k, listed, a, W, _, _, _, _, hL, hq, hfin => by
    have : a = aF := hq W (Gr.refl W)
    subst this
    simp at hL
    subst hL
    exact hfin
  | o :: l, k, listed, a, W, hl, hB, hc, hd, hL, hq, hfin => by
    have h0 : ops[k]? = some o := by simpa using (hl 0 (by simp)).symm
    simp only [List.length_cons, growB, Bool.and_eq_true, decide_eq_true_eq] at hB
    obtain ⟨⟨⟨⟨hkn, hr⟩, hf⟩, ht⟩, hB⟩ := hB
    simp only [dstsB, Bool.and_eq_true] at hd
    obtain ⟨hd1, hd2⟩ := hd
    cases hod : o.dst with
    | none => rw [hod] at hd1; cases hd1
    | some d =>
      rw [hod] at hd1
      simp only [Bool.and_eq_true, decide_eq_true_eq] at hd1
      have val : ∀ C v, wpQuiet P ops C (fun a' => a' = aF) l (a.put o.dst v) → aF.tmps.getD d undef = v := fun C v hv => by
        rw [quiet_keeps l _ hd1.2 hv, hod, put_getD hd1.1]
      have hy : YieldsG P ops W o (aF.tmps.getD d undef) a := fun w hw => by
        have h1 := hq w hw
        unfold wpQuiet at h1
        split at h1
        · rename_i hwant
          obtain ⟨v, hv1, hv2⟩ := h1
          rw [val _ v hv2]
          exact .inl ⟨hwant, quietAt_rg (hv1 w (rg_self w))⟩
        · rename_i hwant
          exact .inr ⟨by simpa using hwant, val _ _ h1⟩
      have hq' : ∀ W', Gr W W' → wpQuiet P ops (RG W') (fun a' => a' = aF) l (a.put o.dst (aF.tmps.getD d undef)) := fun W' h1 => by
        have h3 := hq W' h1
        unfold wpQuiet at h3
        split at h3
        · obtain ⟨v, _, hv⟩ := h3
          rw [val _ v hv]; exact hv
        · rw [val _ _ h3]; exact h3
      have hr' : k ∈ Region.ready md ops listed := by simpa using hr
      have e : f + (o :: l).length = (f + l.length) + 1 := by simp [Nat.add_assoc]
      rw [e]
      refine anyE_first h0 hkn (Region.noSelect_spec hsel) (fun c a w => hQ c a o.dst _ w) ?_ _ listed a W hc (Region.free_spec h0 hf) hr' hy ?_
      · rw [Bool.or_eq_true] at ht
        rcases ht with ht | ht
        · refine .inl fun j hj hlt => ?_
          have := List.all_eq_true.1 ht j (List.mem_range.2 hlt)
          simp only [Bool.or_eq_true, decide_eq_true_eq] at this
          rcases this with h | h
          · omega
          · exact h
        · exact .inr (by simpa [h0] using ht)
      · refine anyE_lex hsel hQ f l (k + 1) _ _ W (fun j hj => ?_) hB (hc.set hr') (by rw [put_size]; exact hd2) ?_ hq' hfin
        · have := hl (j + 1) (by simp; omega)
          rw [show k + 1 + j = k + (j + 1) from by omega]
          simpa using this
        · rw [← hL, List.length_cons, List.range_succ_eq_map, List.foldl_cons, List.foldl_map]
          simp only [Nat.add_zero]
          congr 1
          funext L j
          rw [show k + 1 + j = k + (j + 1) from by omega]
theorem closed_none (m : Nat) : Closed md ops (Array.replicate m false) := by
  intro j oj _ hl
  rw [getD_replicate_false] at hl
  cases hl
theorem anyE_tail {f : Nat} {listed : Array Bool} {a : Act} {w : World} (hr : ∀ i ∈ Region.ready md ops listed, n ≤ i) (h : ∀ w', Gr w w' → wpAny P md ops Q f listed a w') : anyE P md ops Q n f listed a w := by
  cases f with
  | zero => exact h
  | succ f =>
    intro w' g
    obtain ⟨h0, h1⟩ := h w' g
    exact ⟨h0, fun i hi => ⟨fun k => absurd (hr i hi) (by omega), fun _ => h1 i hi⟩⟩
abbrev ptr (g : Nat) : Value := .pointer (some ⟨g, 0, none⟩)
def Lays (P : Program) (o : Oper) (d : Tmp) (t : TypeId) (z : Array Value) : Prop :=
  o.guard = none ∧ o.dst = some d ∧ ∀ (a : Act) (w : World), (execOp a.eval o).run P w = .ok (.value (ptr w.heap.size)) (w.alloc (.cells z t))
theorem gr_drew (w : World) : Gr w { w with drawn := w.drawn + 1 } := below_drew (Below.refl _ _)
theorem wp_region_grow0 {id : Nat} {a : Act} {w : World} {L : List Oper} (m : Nat) (hm : P.follows .mixedOrders = true)
    (hB : (Region.noSelect L.toArray && growB .any L.toArray m m 0 (Array.replicate L.length false) && dstsB a.tmps.size (L.take m) && decide (m ≤ L.length) &&
      (Region.ready .any L.toArray ((List.range m).foldl (fun A j => A.setIfInBounds (0 + j) true) (Array.replicate L.length false))).all (fun i => decide (m ≤ i)) &&
      Region.seqB .any L.toArray (L.drop m).length m ((List.range m).foldl (fun A j => A.setIfInBounds (0 + j) true) (Array.replicate L.length false))) = true)
    (hQ : ∀ c a (d : Option Tmp) v w, Q (.panic c) (a.put d v) w → Q (.panic c) a w)
    (h : ∃ aF : Act, (∀ W', Gr w W' → wpQuiet P L.toArray (fun x => ∃ p : Regrown, x = Go.Sort.grow (redrawn W' p.d) p.os) (fun a' => a' = aF) (L.take m) a) ∧
      ∀ w', Gr w w' → wpList P L.toArray Q (L.drop m) aF w') : (Code.region id L.toArray true).wp P Q a w := by
  obtain ⟨aF, hq, hfin⟩ := h
  simp only [Bool.and_eq_true, decide_eq_true_eq] at hB
  obtain ⟨⟨⟨⟨⟨hsel, hg⟩, hd⟩, hle⟩, hr⟩, hs⟩ := hB
  refine wp_region_any hm (any_of_E (n := m) _ _ _ _ ?_)
  have hlen : (L.take m).length = m := by simp; omega
  have e : L.toArray.size = (L.drop m).length + (L.take m).length := by simp; omega
  rw [e]
  refine anyE_lex hsel hQ _ (L.take m) 0 _ a _ (fun j hj => ?_) (by rw [hlen]; simpa [Nat.sub_add_cancel hle] using hg) (closed_none _) hd rfl (fun W' h1 => hq W' ((gr_drew w).trans h1)) ?_
  · rw [hlen] at hj
    simp [hj]
  · have e2 : (L.drop m).length + (L.take m).length = L.length := by simp; omega
    rw [hlen] at *
    rw [e2]
    refine anyE_tail (fun i hi => ?_) fun w' hw => wpAny_of_seq _ m _ _ _ (fun j => by simp) hs (hfin w' ((gr_drew w).trans hw))
    have := List.all_eq_true.1 hr i hi
    simpa using this
theorem only_panic {K : Act → World → Prop} (c : List PanicEntry) (a : Act) (d : Option Tmp) (v : Value) (w : World) (h : Exit.then K (fun _ _ _ => False) (Exit.panic c) (a.put d v) w) : Exit.then K (fun _ _ _ => False) (Exit.panic c) a w := (h : False).elim
end
end Go.Proofs.YtjlkbmaigcgnbaaDoor
