/- site: maps that a call makes (a set of names, an index of names); bundle.Valid. A region that only reads beside calls that end in Below: two words for its worlds. -/
import Derived.Test.YtjlkbmaigcgnbaaDoorBJ04
import Derived.Maps.OwnSet
import Derived.StringKeys
import Derived.Test.YtjlkbmaigcgnbaaDoorBJ00
set_option linter.unusedVariables false
namespace Go.Proofs.YtjlkbmaigcgnbaaDoor
open Go.ChangeShapes Go.WideShapes Go.ChangeAt Go.RowKit Go.Maps Go.ChangeMaps Go.WideMaps
theorem plainElem_bool_inv {H : Type} {P : Program} {e : TypeId} (he : P.underlying e = some .bool) {v : Value} {b : Bool} {ps : List MemPlace} (h : plainElem (H := H) P e v = some (.lit (.bool b), ps)) : v = .bool b := by
  unfold plainElem at h
  rw [he] at h
  cases v <;> simp at h
  rw [h.1]
theorem key_str : Keyed Tryd.prog 9 := string_keyed Tryd.underlying9
theorem key_of (s : ByteArray) (hs : s.size ≤ maxLen) : keyOf Tryd.prog 9 (.string s) = some (.string s.data.toList) := keyOf_string_mk Tryd.underlying9 hs
theorem zero_bool (w : World) : (zeroValue 4).run Tryd.prog w = .ok (.bool false) w := by kernel_rfl
theorem zero_int (w : World) : (zeroValue 3).run Tryd.prog w = .ok (.int .i64 0) w := by kernel_rfl
theorem ownsMap_bel {H : Type} {k : TypeId} {R : Value → Option (DataW H × List MemPlace)} {w w' : World} {b n : Nat} {D : DataW H} (h : w.ownsMap Tryd.prog k R b n D) (hb : w'.heap[b]? = w.heap[b]?) : w'.ownsMap Tryd.prog k R b n D := by
  obtain ⟨es, clock, h1, h2⟩ := h
  exact ⟨es, clock, hb.trans h1, h2⟩
theorem key_lit {l : List UInt8} : WideAt.IsKeyLit (Lit.string l) := trivial
theorem lit_ne {a b : ByteArray} (h : a ≠ b) : (Lit.string a.data.toList) ≠ Lit.string b.data.toList := fun e => h (by
  injection e with e
  have e2 := congrArg List.toArray e
  simp only [Array.toArray_toList] at e2
  exact congrArg ByteArray.mk e2)
def inB (s : ByteArray) (acc : List ByteArray) : Bool := acc.any fun x => decide (x = s)
theorem inB_iff {s : ByteArray} {acc : List ByteArray} : inB s acc = true ↔ s ∈ acc := by simp [inB]
theorem inB_app (s x : ByteArray) (acc : List ByteArray) : inB s (acc ++ [x]) = (inB s acc || decide (x = s)) := by simp [inB]
def SeenAt (w : World) (m n : Nat) (acc : List ByteArray) : Prop :=
  ∃ D : DataW Unit, w.ownsMap Tryd.prog 9 (plainElem Tryd.prog 4) m n D ∧ ∀ s : ByteArray, D.atKey (.string s.data.toList) (.lit (.bool false)) = .lit (.bool (inB s acc))
section
variable {w w' : World} {m n : Nat} {acc : List ByteArray}
theorem SeenAt.bel (h : SeenAt w m n acc) (hb : Below w.heap.size w w') : SeenAt w' m n acc := by
  obtain ⟨D, h1, h2⟩ := h
  exact ⟨D, ownsMap_bel h1 (hb.block m h1.lt), h2⟩
theorem SeenAt.lt (h : SeenAt w m n acc) : m < w.heap.size := by
  obtain ⟨D, h1, h2⟩ := h
  exact h1.lt
theorem SeenAt.look (h : SeenAt w m n acc) (s : ByteArray) (hs : s.size ≤ maxLen) : (Instr.lookup 91 (.map (some m)) (.string s) false).run Tryd.prog w = .ok (.bool (inB s acc)) w := by
  obtain ⟨D, h1, h2⟩ := h
  obtain ⟨v, ps, hrun, hv⟩ := h1.lookup key_str Tryd.underlying91 (zero_bool w) (plainElem_bool Tryd.underlying4 false) (key_of s hs)
  rw [h2 s] at hv
  rw [plainElem_bool_inv Tryd.underlying4 hv] at hrun
  exact hrun
theorem SeenAt.made (w : World) : SeenAt (w.alloc (.map #[] 0)) w.heap.size 0 [] := ⟨_, World.ownsMap_made w _ _ _, fun s => by simp [DataW.atKey, inB]⟩
end
theorem seen_put {D : DataW Unit} {w : World} {m n : Nat} {acc : List ByteArray} {x : ByteArray} (h : w.ownsMap Tryd.prog 9 (plainElem Tryd.prog 4) m n (D.put (.string x.data.toList) (.lit (.bool true)))) (hD : IsMap D) (hat : ∀ s : ByteArray, D.atKey (.string s.data.toList) (.lit (.bool false)) = .lit (.bool (inB s acc))) : SeenAt w m n (acc ++ [x]) := by
  refine ⟨_, h, fun s => ?_⟩
  by_cases e : s = x
  · subst e
    rw [atKey_put_same hD key_lit, inB_app]
    simp
  · rw [atKey_put_other (lit_ne e), hat s, inB_app]
    have : decide (x = s) = false := by simpa using fun h => e h.symm
    rw [this, Bool.or_false]
theorem grown_below {a w w' : World} {m : Nat} (h : Below a.heap.size a w) (hg : w.grownBy w' (some m)) (hm : a.heap.size ≤ m) : Below a.heap.size a w' := h.grown hg h.size (fun j hj => by cases hj; exact hm)
def IdxAt (w : World) (m n : Nat) (acc : List ByteArray) : Prop :=
  ∃ D : DataW Unit, w.ownsMap Tryd.prog 9 (plainElem Tryd.prog 3) m n D ∧ ∀ s : ByteArray, Maps.has D (.string s.data.toList) = inB s acc ∧ (s ∈ acc → D.atKey (.string s.data.toList) (.lit (.int .i64 0)) = .lit (.int .i64 (ix acc s : Int)))
section
variable {w w' : World} {m n : Nat} {acc : List ByteArray}
theorem IdxAt.same (h : IdxAt w m n acc) (hb : w'.heap[m]? = w.heap[m]?) : IdxAt w' m n acc := by
  obtain ⟨D, h1, h2⟩ := h
  exact ⟨D, ownsMap_bel h1 hb, h2⟩
theorem IdxAt.lt (h : IdxAt w m n acc) : m < w.heap.size := by
  obtain ⟨D, h1, h2⟩ := h
  exact h1.lt
theorem IdxAt.bel (h : IdxAt w m n acc) (hb : Below w.heap.size w w') : IdxAt w' m n acc := h.same (hb.block m h.lt)
theorem IdxAt.made (w : World) : IdxAt (w.alloc (.map #[] 0)) w.heap.size 0 [] := ⟨_, World.ownsMap_made w _ _ _, fun s => ⟨by simp [Maps.has, inB], fun h => by simp at h⟩⟩
theorem IdxAt.look (h : IdxAt w m n acc) (s : ByteArray) (hs : s.size ≤ maxLen) : ∃ v : Int, (Instr.lookup 65 (.map (some m)) (.string s) true).run Tryd.prog w = .ok (.tuple #[.int .i64 v, .bool (inB s acc)]) w ∧ (s ∈ acc → v = (ix acc s : Int)) := by
  obtain ⟨D, h1, h2⟩ := h
  obtain ⟨v, ps, hrun, hv⟩ := h1.look_ok key_str Tryd.underlying65 (zero_int w) (plainElem_int Tryd.underlying3 (by decide)) (key_of s hs)
  obtain ⟨c, rfl, hc, _⟩ := plainElem_int_inv Tryd.underlying3 hv
  rw [(h2 s).1] at hrun
  refine ⟨c, hrun, fun hm => ?_⟩
  rw [(h2 s).2 hm] at hc
  simp only [Prod.mk.injEq, DataW.lit.injEq, Lit.int.injEq, true_and] at hc
  exact hc.1.symm
end
theorem ix_app_old {acc : List ByteArray} {s x : ByteArray} (h : s ∈ acc) : ix (acc ++ [x]) s = ix acc s := by
  unfold ix
  rw [List.findIdx_append, if_pos]
  rw [List.findIdx_lt_length]
  exact ⟨s, h, by simp⟩
theorem ix_app_new {acc : List ByteArray} {x : ByteArray} (h : ¬ x ∈ acc) : ix (acc ++ [x]) x = acc.length := by
  refine ix_here (by simp) (by simp) fun j hj hjl e => ?_
  rw [List.getElem_append_left hjl] at e
  exact h (e ▸ List.getElem_mem _)
theorem idx_put {D : DataW Unit} {w : World} {m n : Nat} {acc : List ByteArray} {x : ByteArray} (h : w.ownsMap Tryd.prog 9 (plainElem Tryd.prog 3) m n (D.put (.string x.data.toList) (.lit (.int .i64 (acc.length : Int))))) (hD : IsMap D) (hx : ¬ x ∈ acc) (hat : ∀ s : ByteArray, Maps.has D (.string s.data.toList) = inB s acc ∧ (s ∈ acc → D.atKey (.string s.data.toList) (.lit (.int .i64 0)) = .lit (.int .i64 (ix acc s : Int)))) : IdxAt w m n (acc ++ [x]) := by
  refine ⟨_, h, fun s => ?_⟩
  by_cases e : s = x
  · subst e
    rw [atKey_put_same hD key_lit, has_put_same hD key_lit, ix_app_new hx, inB_app]
    simp
  · rw [atKey_put_other (lit_ne e), has_put_other (lit_ne e), (hat s).1, inB_app]
    refine ⟨by rw [show decide (x = s) = false by simpa using fun h => e h.symm, Bool.or_false], fun hm => ?_⟩
    have : s ∈ acc := by simpa [e] using hm
    rw [(hat s).2 this, ix_app_old this]
theorem nodup_of_take {ts : List ByteArray} (h : ∀ (k : Nat) (hk : k < ts.length), ¬ ts[k] ∈ ts.take k) : ts.Nodup := by
  rw [List.nodup_iff_pairwise_ne, List.pairwise_iff_getElem]
  intro i j hi hj hij e
  exact h j hj (List.mem_take_iff_getElem.2 ⟨i, by omega, e⟩)
set_option maxRecDepth 100000 in
set_option maxHeartbeats 1000000 in
theorem bvalid_any (l : List Bun) (ao : Option Addr) (cap : Nat) (hl : l.length ≤ cap) (hc : cap ≤ 9223372036854775807) (hs : Hid (∀ x ∈ l, x.tag.size ≤ 60 ∧ x.mark.size ≤ 60)) (w : World) (ha : Hid (RowAt encB 4 w.heap.size w ao l)) :
    Calls Tryd.prog 24 #[.slice ao l.length cap] w fun e w' => e = .returned (.bool (bunV l)) ∧ Below w.heap.size w w' := by
  have hmm := @run_makeMap Tryd.prog
  obtain ⟨R, hR⟩ : ∃ R, bunV l = R := ⟨_, rfl⟩
  rw [hR]
  replace hR := Lib.hid hR
  obtain ⟨n, hn'⟩ : ∃ n, l.length = n := ⟨_, rfl⟩
  rw [hn'] at hl ⊢
  replace hn' := Lib.hid hn'
  go_enter Tryd.func24, Tryd.ntmps24
  by_cases a1 : 1000 < n
  · have hE : Hid (R = false) := Lib.hid (by rw [← hR.out]; unfold bunV; rw [hn'.out]; simp; omega)
    go_wp2_with fail
    go_ret
    exact ⟨by rw [hE.out]; rfl, Below.refl _ _⟩
  go_wp2_with fail
  go_loopg [12] n (fun g i wr => ∃ k : Nat, k ≤ n ∧ i = .int .i64 (k : Int) ∧ Hid (g = n - k ∧ ((l.take k).all bunOk) = true ∧ ∀ (j : Nat) (hj : j < (l.map (·.tag)).length), j < k → ¬ (l.map (·.tag))[j] ∈ (l.map (·.tag)).take j) ∧ Below w.heap.size w wr ∧ Hid (RowAt encB 4 w.heap.size wr ao l) ∧ Hid (SeenAt wr w.heap.size k ((l.map (·.tag)).take k)))
  case atStart => exact ⟨0, Nat.zero_le _, rfl, Lib.hid ⟨rfl, rfl, fun j _ h => absurd h (Nat.not_lt_zero _)⟩, (by repeat (first | with_reducible assumption | with_reducible exact Below.refl _ _ | with_reducible refine below_al ?_ _ | with_reducible refine below_drew ?_ | with_reducible refine below_drewN ?_ _ | with_reducible refine below_set ?_ (by dsimp only; omega) _)), Lib.hid (ha.out.bel (Nat.le_refl _) (below_al (Below.refl _ _) _)), Lib.hid (SeenAt.made w)⟩
  case round =>
    clear ha
    obtain ⟨k, hk, rfl, hr, HB, ha, hm⟩ := hrel
    by_cases hlt : k < n
    · have hkl : Hid (k < l.length) := Lib.hid (by rw [hn'.out]; exact hlt)
      have hkt : Hid (k < (l.map (·.tag)).length) := Lib.hid (by rw [List.length_map]; exact hkl.out)
      have hs' := Lib.hid (hs.out _ (List.getElem_mem hkl.out))
      obtain ⟨b, off, rfl, c0, c1, c2, c3, hb⟩ := ha.out.bun k hkl.out
      have hxt : Hid ((l.map (·.tag))[k]'hkt.out = (l[k]'hkl.out).tag) := Lib.hid (List.getElem_map ..)
      obtain ⟨x, hx⟩ : ∃ x, l[k]'hkl.out = x := ⟨_, rfl⟩
      rw [hx] at c0 c1 c2 c3 hs' hxt
      replace hx := Lib.hid hx
      obtain ⟨xt, xm, xc, xs⟩ := x
      dsimp only at c0 c1 c2 c3 hs' hxt
      have hxz : Hid (xt.size ≤ maxLen) := Lib.hid (by have := hs'.out.1; unfold maxLen; omega)
      obtain ⟨b1, hb1⟩ : ∃ b1, nameB (by_ xt) = b1 := ⟨_, rfl⟩
      obtain ⟨b2, hb2⟩ : ∃ b2, nameB (by_ xm) = b2 := ⟨_, rfl⟩
      have HT := Lib.hid (fun u => isName_any xt (by have := hs'.out.1; omega) u)
      have HM := Lib.hid (fun u => isName_any xm (by have := hs'.out.2; omega) u)
      rw [hb1] at HT
      rw [hb2] at HM
      replace hb1 := Lib.hid hb1
      replace hb2 := Lib.hid hb2
      go_upto_region 7 with fail
      generalize hWW : World.alloc _ _ = W1
      have kx : At W1 wr.heap.size 44 #[.string xt, .string xm, .int .i64 xc, .int .i64 xs] := by rw [← hWW]; exact At.new' rfl
      have hbW : Below wr.heap.size wr W1 := by rw [← hWW]; exact below_al (Below.refl _ _) _
      replace ha := Lib.hid (ha.out.bel HB.size hbW)
      replace hm := Lib.hid (hm.out.bel hbW)
      replace HB := below_then HB hbW
      clear hWW hbW c0 c1 c2 c3 hb
      obtain ⟨k0, k1, k2, k3⟩ := kx.four
      have hlook := hm.out.look xt hxz.out
      obtain ⟨b3, hb3⟩ : ∃ b3, inB xt ((l.map (·.tag)).take k) = b3 := ⟨_, rfl⟩
      rw [hb3] at hlook
      replace hb3 := Lib.hid hb3
      go_wp2_with fail
      refine (HT.out _).mono ?_
      rintro e w' ⟨rfl, rfl⟩
      cases b1
      · have hE : Hid (R = false) := Lib.hid (by rw [← hR.out]; exact bunV_not hkl.out (by rw [hx.out]; unfold bunOk; rw [show nameB (by_ xt) = false from hb1.out]; rfl))
        go_wp2_with fail
        go_ret
        exact ⟨by rw [hE.out]; rfl, (by repeat (first | with_reducible assumption | with_reducible exact Below.refl _ _ | with_reducible refine below_al ?_ _ | with_reducible refine below_drew ?_ | with_reducible refine below_drewN ?_ _ | with_reducible refine below_set ?_ (by dsimp only; omega) _))⟩
      go_wp2_with fail
      refine (HM.out _).mono ?_
      rintro e w' ⟨rfl, rfl⟩
      cases b2
      · have hE : Hid (R = false) := Lib.hid (by rw [← hR.out]; exact bunV_not hkl.out (by rw [hx.out]; unfold bunOk; rw [show nameB (by_ xm) = false from hb2.out]; simp))
        go_wp2_with fail
        go_ret
        exact ⟨by rw [hE.out]; rfl, (by repeat (first | with_reducible assumption | with_reducible exact Below.refl _ _ | with_reducible refine below_al ?_ _ | with_reducible refine below_drew ?_ | with_reducible refine below_drewN ?_ _ | with_reducible refine below_set ?_ (by dsimp only; omega) _))⟩
      cases b3
      rotate_left
      · have hE : Hid (R = false) := Lib.hid (by 
          rw [← hR.out]
          unfold bunV
          have : ¬ (l.map (·.tag)).Nodup := fun h => by
            have h1 := inB_iff.1 hb3.out
            rw [List.mem_take_iff_getElem] at h1
            obtain ⟨j, hj, e⟩ := h1
            rw [← hxt.out] at e
            have := (List.getElem_inj h).1 e
            omega
          rw [decide_eq_false this]
          simp)
        go_wp2_with fail
        go_ret
        exact ⟨by rw [hE.out]; rfl, (by repeat (first | with_reducible assumption | with_reducible exact Below.refl _ _ | with_reducible refine below_al ?_ _ | with_reducible refine below_drew ?_ | with_reducible refine below_drewN ?_ _ | with_reducible refine below_set ?_ (by dsimp only; omega) _))⟩
      by_cases t3 : xc < 1
      · have hE : Hid (R = false) := Lib.hid (by rw [← hR.out]; exact bunV_not hkl.out (by rw [hx.out]; unfold bunOk; have : decide (1 ≤ xc) = false := (by simp; omega); rw [show decide (1 ≤ (Bun.mk xt xm xc xs).count) = false from this]; simp))
        go_wp2_with fail
        go_ret
        exact ⟨by rw [hE.out]; rfl, (by repeat (first | with_reducible assumption | with_reducible exact Below.refl _ _ | with_reducible refine below_al ?_ _ | with_reducible refine below_drew ?_ | with_reducible refine below_drewN ?_ _ | with_reducible refine below_set ?_ (by dsimp only; omega) _))⟩
      by_cases t4 : 1000 < xc
      · have hE : Hid (R = false) := Lib.hid (by rw [← hR.out]; exact bunV_not hkl.out (by rw [hx.out]; unfold bunOk; have : decide (xc ≤ 1000) = false := (by simp; omega); rw [show decide ((Bun.mk xt xm xc xs).count ≤ 1000) = false from this]; simp))
        go_wp2_with fail
        go_ret
        exact ⟨by rw [hE.out]; rfl, (by repeat (first | with_reducible assumption | with_reducible exact Below.refl _ _ | with_reducible refine below_al ?_ _ | with_reducible refine below_drew ?_ | with_reducible refine below_drewN ?_ _ | with_reducible refine below_set ?_ (by dsimp only; omega) _))⟩
      by_cases t5 : xs < 0
      · have hE : Hid (R = false) := Lib.hid (by rw [← hR.out]; exact bunV_not hkl.out (by rw [hx.out]; unfold bunOk; have : decide (0 ≤ xs) = false := (by simp; omega); rw [show decide (0 ≤ (Bun.mk xt xm xc xs).mass) = false from this]; simp))
        go_wp2_with fail
        go_ret
        exact ⟨by rw [hE.out]; rfl, (by repeat (first | with_reducible assumption | with_reducible exact Below.refl _ _ | with_reducible refine below_al ?_ _ | with_reducible refine below_drew ?_ | with_reducible refine below_drewN ?_ _ | with_reducible refine below_set ?_ (by dsimp only; omega) _))⟩
      cases t6 : decide ((1099511627776 : Int) < xs)
      rotate_left
      · have t6' := Lib.hid t6
        have hE : Hid (R = false) := Lib.hid (by rw [← hR.out]; exact bunV_not hkl.out (by rw [hx.out]; unfold bunOk; have : decide (xs ≤ 1099511627776) = false := (by have := of_decide_eq_true t6'.out; simp; omega); rw [show decide ((Bun.mk xt xm xc xs).mass ≤ 1099511627776) = false from this]; simp))
        go_wp2_with fail
        go_ret
        exact ⟨by rw [hE.out]; rfl, (by repeat (first | with_reducible assumption | with_reducible exact Below.refl _ _ | with_reducible refine below_al ?_ _ | with_reducible refine below_drew ?_ | with_reducible refine below_drewN ?_ _ | with_reducible refine below_set ?_ (by dsimp only; omega) _))⟩
      have t6' := Lib.hid t6
      have hok : Hid (bunOk (l[k]'hkl.out) = true) := Lib.hid (by
        rw [hx.out]
        unfold bunOk
        have := of_decide_eq_false t6'.out
        rw [show nameB (by_ xt) = true from hb1.out, show nameB (by_ xm) = true from hb2.out]
        simp
        omega)
      clear t6'
      obtain ⟨D, hown, hat⟩ := hm.out
      have hD := Lib.hid hown.isMap
      replace hat := Lib.hid hat
      have hkn : Hid (k < maxLen) := Lib.hid (by unfold maxLen; omega)
      have hkey := key_of xt hxz.out
      go_wp2_with (first | (at_mapUpdate; refine wpList_mapUpdate_own _ rfl _ _ _ 91 rfl 9 4 key_str Tryd.underlying91 _ w.heap.size k _ rfl hown hkn.out _ _ _ rfl rfl hkey _ [] (plainElem_bool Tryd.underlying4 true) ?_) | go_in)
      intro w2 hown2 hg2
      have hb2 : Below W1.heap.size W1 W1 := Below.refl _ _
      have hm2 : Hid (SeenAt w2 w.heap.size (k + 1) ((l.map (·.tag)).take (k + 1))) := Lib.hid (by
        have := seen_put hown2 hD.out hat.out
        rwa [List.take_succ_eq_append_getElem hkt.out, hxt.out])
      have ha2 : Hid (RowAt encB 4 w.heap.size w2 (some ⟨b, off, none⟩) l) := Lib.hid (by
        intro j hj
        obtain ⟨b', off', e, hlt', hcc⟩ := ha.out j hj
        refine ⟨b', off', e, hlt', fun i u hu => ?_⟩
        have hbk := hg2.block b' (Nat.lt_of_lt_of_le hlt' HB.size) (fun h => by injection h with h; omega)
        rw [← hcc i u hu]
        unfold World.cell?
        rw [hbk])
      replace HB := grown_below HB hg2 (Nat.le_refl _)
      clear hown hown2 hg2 hb2 kx k0 k1 k2 k3 hlook
      go_wp2_with fail
      go_roundg (n - (k + 1))
      case measure => have := hr.out.1; omega
      case rel =>
        refine ⟨k + 1, by omega, by go_num, Lib.hid ⟨rfl, take_all hkl.out hr.out.2.1 hok.out, ?_⟩, (by repeat (first | with_reducible assumption | with_reducible exact Below.refl _ _ | with_reducible refine below_al ?_ _ | with_reducible refine below_drew ?_ | with_reducible refine below_drewN ?_ _ | with_reducible refine below_set ?_ (by dsimp only; omega) _)), ha2, hm2⟩
        intro j hj hjk
        by_cases hj2 : j = k
        · subst hj2
          rw [hxt.out]
          exact fun h => by have := inB_iff.2 h; rw [hb3.out] at this; cases this
        · exact hr.out.2.2 j hj (by omega)
    · have hE : Hid (R = true) := Lib.hid (by
        have h0 := hn'.out
        have h1 := hr.out.2.1
        rw [List.take_of_length_le (by omega)] at h1
        rw [← hR.out]
        unfold bunV
        rw [h1, decide_eq_true (by omega : l.length ≤ 1000), decide_eq_true (nodup_of_take fun j hj => hr.out.2.2 j hj (by rw [List.length_map] at hj; omega))]
        rfl)
      go_wp2_with fail
      go_ret
      exact ⟨by rw [hE.out]; rfl, HB⟩
end Go.Proofs.YtjlkbmaigcgnbaaDoor
set_option linter.unusedVariables false
namespace Go.Proofs.YtjlkbmaigcgnbaaDoor
open Go.ChangeShapes Go.WideShapes Go.ChangeAt Go.RowKit
theorem below_of_regrown {w v : World} (h : ∃ p : Regrown, v = Go.Sort.grow (redrawn w p.d) p.os) : Below w.heap.size w v := by
  obtain ⟨p, rfl⟩ := h
  exact below_regrown _ _ _
theorem regrown_call {P : Program} {f : FuncId} {args : Array Value} {w : World} {d : Nat} {os : Array Obj} {v : Value}
    (h : ∀ W : World, Calls P f args W fun e w' => e = .returned v ∧ Below W.heap.size W w') : Calls P f args (Go.Sort.grow (redrawn w d) os) fun e w'' => e = .returned v ∧ ∃ p : Regrown, w'' = Go.Sort.grow (redrawn w p.d) p.os :=
  Calls.regrown_of (h _)
end Go.Proofs.YtjlkbmaigcgnbaaDoor
