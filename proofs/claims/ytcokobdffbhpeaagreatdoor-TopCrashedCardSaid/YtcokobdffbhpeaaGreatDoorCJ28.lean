/- Plain: what is known of a yard's entries and of the states between them. The yard's entries. -/
import Derived.Test.YtcokobdffbhpeaaGreatDoorCJ22
import Derived.Test.YtcokobdffbhpeaaGreatDoorCJ13
import Derived.Test.YtcokobdffbhpeaaGreatDoorCJ12
import Derived.Test.YtcokobdffbhpeaaGreatDoorCJ21
import Derived.Test.YtcokobdffbhpeaaGreatDoorCJ27
import Derived.Test.YtcokobdffbhpeaaGreatDoorCJ20
set_option linter.unusedVariables false
namespace Go.Proofs.YtcokobdffbhpeaaGreatDoor
open Go.ChangeShapes Go.WideShapes Go.ChangeAt Go.RowKit
def mB : ByteArray := ⟨#[109]⟩
theorem mB_name : nameB (by_ mB) = true := by decide +kernel
theorem yard_st0 (l : List Bun) : st0 l mB = mkS (l.map (·.tag)) ⟨#[109]⟩ (List.replicate (l.map (·.tag)).length 0) [] := by
  unfold st0 mkS
  rw [List.length_map]
  rfl
theorem bunV_tags {l : List Bun} (h : bunV l = true) : (l.map (·.tag)).Nodup ∧ ∀ t ∈ l.map (·.tag), nameB (by_ t) = true := by
  unfold bunV at h
  simp only [Bool.and_eq_true, decide_eq_true_eq] at h
  refine ⟨h.2, fun t ht => ?_⟩
  obtain ⟨x, hx, rfl⟩ := List.mem_map.1 ht
  have := List.all_eq_true.1 h.1.2 x hx
  unfold bunOk at this
  simp only [Bool.and_eq_true, decide_eq_true_eq] at this
  exact this.1.1.1.1.1
structure YardK (l : List Bun) (E : List Ent) (S : St) : Prop where
  new : newOk l mB = true
  val : logV E = true
  play : playF E (st0 l mB) = (0, S)
  ready : readyS S = true
  len : E.length = 2 * l.length + 1
  ok0 : (st0 l mB).ok
  nm : ∀ x ∈ E, x.name.size ≤ 60
theorem yard_known {l : List Bun} {L : List (List Nat)} (hv : bunV l = true) (h : LoadsOk l.length L) (hn : l.length ≤ 400) (hl : L.length ≤ 1000) (hs : ∀ x ∈ l, x.tag.size ≤ 60 ∧ x.mark.size ≤ 60) :
    ∃ S, YardK l (yardE (l.map (·.tag)) L) S := by
  obtain ⟨h1, h2⟩ := bunV_tags hv
  have h' : LoadsOk (l.map (·.tag)).length L := by rw [List.length_map]; exact h
  have hval := yardE_val h' (by rw [List.length_map]; exact hn) hl h2 mB_name
  have hp := yard_play h1 h' hval
  have hnew : newOk l mB = true := by unfold newOk; rw [hv, mB_name]; rfl
  refine ⟨_, hnew, hval, by rw [yard_st0]; exact hp, ?_, by rw [yardE_len _ h', List.length_map], st0_ok l mB hnew hs, fun x hx => ?_⟩
  · show (missS _ (List.replicate _ 2)).isEmpty && ([] : List ByteArray).isEmpty = true
    rw [miss_none]
    rfl
  · have := (WordsOk.of (logV_ent hval hx)).bd.2
    omega
structure YardI (l : List Bun) (E : List Ent) (S : St) (i : Nat) (T : St) : Prop where
  play : playF (E.take i) (st0 l mB) = (0, T)
  rest : playF (E.drop i) T = (0, S)
  ok : T.ok
  kept : T.kept = E.take i
  acc : T.at_.count 0 + T.at_.count 1 + T.at_.count 2 = l.length
theorem playF_tags : ∀ (l : List Ent) (s t : St), playF l s = (0, t) → t.tags.length = s.tags.length
  | [], s, t, h => by
    have h2 : s = t := congrArg Prod.snd h
    rw [h2]
  | x :: l, s, t, h => by
    by_cases hx : (doS s x).1 = 0
    · rw [playF_go hx] at h
      rw [playF_tags l _ t h, doS_tags]
    · rw [playF_stop hx] at h
      exact absurd (congrArg Prod.fst h) hx
theorem YardK.at {l : List Bun} {E : List Ent} {S : St} (h : YardK l E S) (i : Nat) : ∃ T, YardI l E S i T := by
  obtain ⟨T, hT⟩ := playF_pre (E.take i) (E.drop i) (st0 l mB) S (by rw [List.take_append_drop]; exact h.play)
  have hz : ∀ x ∈ E.take i, x.name.size ≤ 60 := fun x hx => h.nm x (List.mem_of_mem_take hx)
  have hok : T.ok := by have := playF_ok (E.take i) _ h.ok0 hz; rw [hT] at this; exact this
  refine ⟨T, hT, ?_, hok, ?_, ?_⟩
  · have := playF_app (E.take i) (E.drop i) (st0 l mB) T hT
    rw [List.take_append_drop, h.play] at this
    exact this.symm
  · rw [playF_kept _ _ _ hT]; rfl
  · rw [count3 _ hok.le, hok.len, playF_tags _ _ _ hT]
    show (l.map (·.tag)).length = _
    rw [List.length_map]
end Go.Proofs.YtcokobdffbhpeaaGreatDoor
set_option linter.unusedVariables false
namespace Go.Proofs.YtcokobdffbhpeaaGreatDoor
open Go.ChangeShapes Go.WideShapes Go.ChangeAt Go.RowKit
def encW (u : Value) : List Value := [u]
def IsN (l : List Nat) (v : Value) (w : World) : Prop := ∃ a c, v = .slice a l.length c ∧ l.length ≤ c ∧ c ≤ 9223372036854775807 ∧ RowAt encN 1 w.heap.size w a l
structure LdV (w : World) (L : List (List Nat)) (v : Value) (vs : List Value) : Prop where
  row : ∃ a c, v = .slice a L.length c ∧ L.length ≤ c ∧ c ≤ 9223372036854775807 ∧ RowAt encW 1 w.heap.size w a vs
  n : vs.length = L.length
  each : ∀ j (h1 : j < vs.length) (h2 : j < L.length), IsN L[j] vs[j] w
theorem IsN.up {l : List Nat} {v : Value} {w w' : World} (h : IsN l v w) (hb : Below w.heap.size w w') : IsN l v w' := by
  obtain ⟨a, c, h1, h2, h3, h4⟩ := h
  exact ⟨a, c, h1, h2, h3, (h4.bel (Nat.le_refl _) hb).mono hb.size⟩
theorem LdV.up {w w' : World} {L : List (List Nat)} {v : Value} {vs : List Value} (h : LdV w L v vs) (hb : Below w.heap.size w w') : LdV w' L v vs := by
  obtain ⟨⟨a, c, h1, h2, h3, h4⟩, hn, he⟩ := h
  exact ⟨⟨a, c, h1, h2, h3, (h4.bel (Nat.le_refl _) hb).mono hb.size⟩, hn, fun j h1 h2 => (he j h1 h2).up hb⟩
theorem own_row1 {α : Type} {enc : α → List Value} {f : α → Value} (hf : ∀ x, enc x = [f x]) {w : World} {base : Nat} {e : TypeId} {v : Value} {l : List α} (h : w.ownsRow base e 1 v l.length (l.map f)) : ∃ a c, v = .slice a l.length c ∧ l.length ≤ c ∧ c ≤ 9223372036854775807 ∧ RowAt enc 1 w.heap.size w a l := by
  by_cases h0 : l.length = 0
  · obtain ⟨a, c, e1⟩ := own_slice h
    obtain ⟨_, ⟨h1, h2⟩ | ⟨g, cap, cur, h1, h2, h3, h4, h5, h6⟩⟩ := h
    · exact ⟨none, 0, by rw [h1, h0], by omega, by omega, fun k hk => absurd hk (by omega)⟩
    · exact ⟨_, cap, h1, h4, by have : cap ≤ 2 ^ 63 - 1 := h5; omega, fun k hk => absurd hk (by omega)⟩
  · obtain ⟨g, cap, e1, h1, h2, h3, h4, -, hcell⟩ := own_some h (by omega)
    refine ⟨_, cap, e1, h1, h2, fun k hk => ⟨g, 0, rfl, h4, fun j u hu => ?_⟩⟩
    rw [hf] at hu
    have hj : j = 0 := by
      have := (List.getElem?_eq_some_iff.1 hu).1
      simpa using this
    subst hj
    rw [Nat.zero_add, Nat.mul_one, Nat.add_zero]
    refine hcell k u ?_
    rw [List.getElem?_map, List.getElem?_eq_getElem hk]
    simpa using hu
theorem GrX.ldv {B : Nat} {w : World} {L : List (List Nat)} {ms : List Int} {vo vm : Value} {vs : List Value} (h : GrX B w L ms vo vm vs vs) : LdV w L vo vs := by
  have h1 := h.o
  rw [show vs = vs.map id from (List.map_id _).symm] at h1
  obtain ⟨a, c, e, q1, q2, q3⟩ := own_row1 (enc := encW) (f := id) (fun x => rfl) (l := vs) (by rw [List.length_map] at h1; exact h1)
  refine ⟨⟨a, c, by rw [← h.n]; exact e, by rw [← h.n]; exact q1, q2, q3⟩, h.n, fun j h1 h2 => ?_⟩
  exact own_row1 (enc := encN) (f := fun n : Nat => .int .i64 (n : Int)) (fun x => rfl) (h.each j h1 h2)
theorem delA_take (tags : List ByteArray) (L : List (List Nat)) (k : Nat) (hk : k < L.length) : delA tags (L.take (k + 1)) 0 = delA tags (L.take k) 0 ++ delE tags k L[k] := by
  rw [List.take_succ_eq_append_getElem hk, delA_snoc, List.length_take, Nat.min_eq_left (by omega), Nat.zero_add]
theorem delE_take (tags : List ByteArray) (d : Nat) (ld : List Nat) (j : Nat) (hj : j < ld.length) : delE tags d (ld.take (j + 1)) = delE tags d (ld.take j) ++ [⟨(d : Int), 1, nmT tags ld[j]⟩] := by
  unfold delE
  rw [List.take_succ_eq_append_getElem hj, List.map_append]
  rfl
theorem plaE_take (tags : List ByteArray) (d : Nat) (j : Nat) (hj : j < tags.length) : plaE (tags.take (j + 1)) d = plaE (tags.take j) d ++ [⟨(d : Int), 2, tags[j]⟩] := by
  unfold plaE
  rw [List.take_succ_eq_append_getElem hj, List.map_append]
  rfl
theorem take_flat (L : List (List Nat)) (k : Nat) (hk : k < L.length) : (L.take k).flatten.length + L[k].length ≤ L.flatten.length := by
  conv => rhs; rw [← List.take_append_drop k L, List.flatten_append, List.length_append, List.drop_eq_getElem_cons hk, List.flatten_cons, List.length_append]
  omega
set_option maxRecDepth 100000 in
set_option maxHeartbeats 2000000 in
theorem yard_any (l : List Bun) (a : Option Addr) (c : Nat) (hl : l.length ≤ c) (hn : l.length ≤ 400) (L : List (List Nat)) (v : Value) (vs : List Value) (hL : ∀ i ∈ L.flatten, i < l.length) (hLf : L.flatten.length ≤ 400) (hLn : L.length ≤ 400) (w : World) (hr : RowAt encB 4 w.heap.size w a l) (hv : LdV w L v vs) :
    Calls Tryz.prog 7 #[.slice a l.length c, v] w fun e w' => (∃ v', e = .returned v' ∧ IsE (yardE (l.map (·.tag)) L) v' w') ∧ Below w.heap.size w w' := by
  obtain ⟨i0, hi, hz0, hz1, hz2⟩ := info_parts infoEnt
  obtain ⟨tags, htags⟩ : ∃ tags, l.map (·.tag) = tags := ⟨_, rfl⟩
  have htl : tags.length = l.length := by rw [← htags, List.length_map]
  rw [htags]
  have htg : Hid (∀ (i : Nat) (h1 : i < l.length), nmT tags i = l[i].tag ∧ ∃ h2 : i < tags.length, tags[i] = l[i].tag) := Lib.hid fun i h1 => by
    have h2 : i < tags.length := by omega
    have h3 : tags[i] = l[i].tag := by simp only [← htags, List.getElem_map]
    exact ⟨(nmT_mem h2).trans h3, h2, h3⟩
  have hrow := Lib.hid (fun (W : World) (hW : Below w.heap.size w W) => (show RowAt encB 4 w.heap.size W a l from hr.bel (Nat.le_refl _) hW))
  have hvW := Lib.hid (fun (W : World) (hW : Below w.heap.size w W) => hv.up hW)
  obtain ⟨⟨ao, co, rfl, v1, v2, -⟩, hvn, -⟩ := hv
  obtain ⟨n, hn'⟩ : ∃ n, l.length = n := ⟨_, rfl⟩
  obtain ⟨nO, hnO⟩ : ∃ nO, L.length = nO := ⟨_, rfl⟩
  have hbnd : Hid (∀ (k : Nat) (hk : k < L.length), (delA tags (L.take k) 0).length + L[k].length ≤ 400) := Lib.hid fun k hk => by
    have := take_flat L k hk
    rw [delA_len]
    omega
  have hbnd2 : Hid (∀ k, (delA tags (L.take k) 0).length ≤ 400) := Lib.hid fun k => by
    rw [delA_len]
    have h1 : (L.take k).flatten.length ≤ L.flatten.length := by
      conv => rhs; rw [← List.take_append_drop k L, List.flatten_append, List.length_append]
      omega
    omega
  have hLi : Hid (∀ (k : Nat) (hk : k < L.length) (j : Nat) (hj : j < L[k].length), L[k][j] < l.length) := Lib.hid fun k hk j hj => hL _ (List.mem_flatten.2 ⟨L[k], List.getElem_mem hk, List.getElem_mem hj⟩)
  rw [hnO] at v1 ⊢
  rw [hn'] at hl ⊢
  rw [hn'] at hn
  rw [hnO] at hLn
  replace hn' := Lib.hid hn'
  replace hnO := Lib.hid hnO
  replace hvn := Lib.hid hvn
  replace htl := Lib.hid htl
  clear hr hL hLf htags
  go_enter Tryz.func7, Tryz.ntmps7
  go_wp2_with fail
  go_loopg [14, 5] nO (fun g i u wr => ∃ (k : Nat) (u0 : Value), u0 = u ∧ k ≤ nO ∧ i = .int .i64 (k : Int) ∧ Hid (g = nO - k) ∧ Below w.heap.size w wr ∧ Hid (wr.ownsRow w.heap.size 39 3 u (delA tags (L.take k) 0).length ((delA tags (L.take k) 0).flatMap encE)))
  case atStart => exact ⟨0, _, rfl, Nat.zero_le _, rfl, Lib.hid rfl, Below.refl _ _, Lib.hid (World.ownsRow_nil _ _ _ _)⟩
  case round =>
    obtain ⟨k, u, rfl, hk, rfl, hr, HB, ho⟩ := hrel
    by_cases hlt : k < nO
    · have hkl : Hid (k < L.length) := Lib.hid (by rw [hnO.out]; exact hlt)
      have hkv : Hid (k < vs.length) := Lib.hid (by rw [hvn.out]; exact hkl.out)
      have hV := hvW.out wr HB
      obtain ⟨ao', co', e, -, -, hrw⟩ := hV.row
      injection e with e1 e2 e3
      rw [← e1] at hrw
      obtain ⟨b, off, rfl, c0, -⟩ := (show RowAt (fun u => [id u]) 1 wr.heap.size wr ao vs from hrw).one k hkv.out
      obtain ⟨al, cl, hve, l1, l2, -⟩ := hV.each k hkv.out hkl.out
      simp only [id] at c0
      rw [hve] at c0
      obtain ⟨m, hm⟩ : ∃ m, (L[k]'hkl.out).length = m := ⟨_, rfl⟩
      rw [hm] at c0 l1
      have hbk := hbnd.out k hkl.out
      rw [hm] at hbk
      replace hm := Lib.hid hm
      replace hve := Lib.hid hve
      clear hV e1 e2 e3 hrw
      have ho0 : Hid (wr.ownsRow w.heap.size 39 3 u (delA tags (L.take k) 0 ++ delE tags k ((L[k]'hkl.out).take 0)).length ((delA tags (L.take k) 0 ++ delE tags k ((L[k]'hkl.out).take 0)).flatMap encE)) := Lib.hid (by
        rw [List.take_zero, show delE tags k [] = [] from rfl, List.append_nil]
        exact ho.out)
      clear ho
      go_wp2_with fail
      go_loopg [21, 5] m (fun g i u wq => ∃ (j : Nat) (u0 : Value), u0 = u ∧ j ≤ m ∧ i = .int .i64 (j : Int) ∧ Hid (g = m - j) ∧ Below w.heap.size w wq ∧ Hid (wq.ownsRow w.heap.size 39 3 u (delA tags (L.take k) 0 ++ delE tags k ((L[k]'hkl.out).take j)).length ((delA tags (L.take k) 0 ++ delE tags k ((L[k]'hkl.out).take j)).flatMap encE)))
      case atStart => exact ⟨0, _, rfl, Nat.zero_le _, rfl, Lib.hid rfl, HB, ho0⟩
      case round =>
        clear HB ho0 c0
        obtain ⟨j, u, rfl, hj, rfl, hr2, HB, ho⟩ := hrel
        by_cases hlj : j < m
        · have hjl : Hid (j < (L[k]'hkl.out).length) := Lib.hid (by rw [hm.out]; exact hlj)
          have hV := (hvW.out wr HB).each k hkv.out hkl.out
          rw [hve.out] at hV
          obtain ⟨al', cl', e, -, -, hrw⟩ := hV
          injection e with e1 e2 e3
          rw [← e1] at hrw
          obtain ⟨b2, off2, rfl, d0, -⟩ := (show RowAt (fun n : Nat => [Value.int .i64 (n : Int)]) 1 wr.heap.size wr al L[k] from hrw).one j hjl.out
          have hxn := hLi.out k hkl.out j hjl.out
          have hdt := Lib.hid (delE_take tags k (L[k]'hkl.out) j hjl.out)
          obtain ⟨x, hx⟩ : ∃ x, (L[k]'hkl.out)[j]'hjl.out = x := ⟨_, rfl⟩
          replace d0 : wr.cell? ⟨b2, off2 + j, none⟩ = some (.int .i64 (x : Int)) := by rw [← hx]; exact d0
          replace hxn : x < l.length := by rw [← hx]; exact hxn
          replace hdt : Hid (delE tags k ((L[k]'hkl.out).take (j + 1)) = delE tags k ((L[k]'hkl.out).take j) ++ [⟨(k : Int), 1, nmT tags x⟩]) := Lib.hid (by rw [← hx]; exact hdt.out)
          obtain ⟨bb, off3, rfl, f0, -, -, -, -⟩ := (hrow.out wr HB).bun x hxn
          have htx := (htg.out x hxn).1
          rw [htx] at hdt
          obtain ⟨t, ht⟩ : ∃ t, (l[x]'hxn).tag = t := ⟨_, rfl⟩
          rw [ht] at f0 hdt
          have hxn2 : x < n := by rw [← hn'.out]; exact hxn
          have g1 : decide ((0 : Int) ≤ (x : Int)) = true := decide_eq_true (by omega)
          have g2 : decide ((x : Int) < (n : Int)) = true := decide_eq_true (by omega)
          have hdl : (delA tags (L.take k) 0 ++ delE tags k ((L[k]'hkl.out).take j)).length ≤ 399 := by
            rw [List.length_append, show (delE tags k ((L[k]'hkl.out).take j)).length = j by unfold delE; rw [List.length_map, List.length_take]; have := hjl.out; omega]
            omega
          obtain ⟨o, ho'⟩ : ∃ o, delA tags (L.take k) 0 ++ delE tags k ((L[k]'hkl.out).take j) = o := ⟨_, rfl⟩
          have hnx : Hid (delA tags (L.take k) 0 ++ delE tags k ((L[k]'hkl.out).take (j + 1)) = o ++ [⟨(k : Int), 1, t⟩]) := Lib.hid (by rw [hdt.out, ← List.append_assoc, ho'])
          rw [ho'] at ho hdl
          clear hx htx ht ho' hdt e1 e2 e3 hrw hxn hbk
          go_wp2_with (at_builtin; refine wpList_append_own_at _ rfl _ _ 30 rfl w.heap.size 39 i0 (.agg #[.int .i64 0, .int .i64 0, .string ⟨#[]⟩]) 3 32 Tryz.underlying30 hi hz0 hz1 hz2 rfl (by decide) _ _ _ rfl (World.ownsRow.alloc ho.out _) ⟨wr.heap.size, 0, none⟩ 1 1 [.int .i64 (k : Int), .int .i64 1, .string t] rfl rfl (three_new (At.new _ _ _)) (by intro u hu; simp at hu; rcases hu with rfl | rfl | rfl <;> rfl) (by unfold maxLen; omega) (by omega) (by have := HB.size; simp; omega) ?_)
          intro v' w5 ho1 hg1 hnil hloc
          have hb1 : Below w.heap.size w w5 := below_grown HB ((World.grownBy_alloc _ _ _).trans hg1) (fun b hb => (own_lt ho.out hb).2)
          have ho2 : Hid (w5.ownsRow w.heap.size 39 3 v' (delA tags (L.take k) 0 ++ delE tags k ((L[k]'hkl.out).take (j + 1))).length ((delA tags (L.take k) 0 ++ delE tags k ((L[k]'hkl.out).take (j + 1))).flatMap encE)) := Lib.hid (by
            rw [hnx.out, List.length_append, List.flatMap_append]
            exact ho1)
          clear hg1 hnil hloc ho1 ho d0 f0
          go_wp2_with fail
          go_roundg (m - (j + 1))
          case measure => have := hr2.out; omega
          case rel => exact ⟨j + 1, _, rfl, by omega, by go_num, Lib.hid rfl, hb1, ho2⟩
        · have hst : Hid (wr.ownsRow w.heap.size 39 3 u (delA tags (L.take (k + 1)) 0).length ((delA tags (L.take (k + 1)) 0).flatMap encE)) := Lib.hid (by
            have h := ho.out
            rw [List.take_of_length_le (l := L[k]'hkl.out) (by have := hm.out; omega)] at h
            rw [delA_take tags L k hkl.out]
            exact h)
          clear ho
          go_wp2_with fail
          go_roundg (nO - (k + 1))
          case measure => have := hr.out; omega
          case rel => exact ⟨k + 1, _, rfl, by omega, by go_num, Lib.hid rfl, HB, hst⟩
    · have hkn : k = nO := by omega
      subst hkn
      have hD : Hid (delA tags (L.take k) 0 = delA tags L 0) := Lib.hid (by rw [List.take_of_length_le (by have := hnO.out; omega)])
      have hDl : (delA tags L 0).length ≤ 400 := by have := hbnd2.out k; rwa [hD.out] at this
      have ho0 : Hid (wr.ownsRow w.heap.size 39 3 u (delA tags L 0 ++ plaE (tags.take 0) k).length ((delA tags L 0 ++ plaE (tags.take 0) k).flatMap encE)) := Lib.hid (by
        rw [List.take_zero, show plaE [] k = [] from rfl, List.append_nil, ← hD.out]
        exact ho.out)
      clear ho
      go_wp2_with fail
      go_loopg [47, 5] n (fun g i u wq => ∃ (j : Nat) (u0 : Value), u0 = u ∧ j ≤ n ∧ i = .int .i64 (j : Int) ∧ Hid (g = n - j) ∧ Below w.heap.size w wq ∧ Hid (wq.ownsRow w.heap.size 39 3 u (delA tags L 0 ++ plaE (tags.take j) k).length ((delA tags L 0 ++ plaE (tags.take j) k).flatMap encE)))
      case atStart => exact ⟨0, _, rfl, Nat.zero_le _, rfl, Lib.hid rfl, HB, ho0⟩
      case round =>
        clear HB ho0
        obtain ⟨j, u, rfl, hj, rfl, hr2, HB, ho⟩ := hrel
        by_cases hlj : j < n
        · have hjl : Hid (j < l.length) := Lib.hid (by rw [hn'.out]; exact hlj)
          obtain ⟨bb, off3, rfl, f0, f1, f2, f3, -⟩ := (hrow.out wr HB).bun j hjl.out
          obtain ⟨-, hjt, htx⟩ := htg.out j hjl.out
          have hpt := Lib.hid (plaE_take tags k j hjt)
          obtain ⟨x, hx⟩ : ∃ x, l[j]'hjl.out = x := ⟨_, rfl⟩
          rw [htx, hx] at hpt
          rw [hx] at f0 f1 f2 f3
          clear htx hx
          obtain ⟨xt, xm, xc, xs⟩ := x
          dsimp only at f0 f1 f2 f3 hpt
          have hdl : (delA tags L 0 ++ plaE (tags.take j) k).length ≤ 800 := by
            rw [List.length_append, show (plaE (tags.take j) k).length = j by unfold plaE; rw [List.length_map, List.length_take]; omega]
            omega
          obtain ⟨o, ho'⟩ : ∃ o, delA tags L 0 ++ plaE (tags.take j) k = o := ⟨_, rfl⟩
          have hnx : Hid (delA tags L 0 ++ plaE (tags.take (j + 1)) k = o ++ [⟨(k : Int), 2, xt⟩]) := Lib.hid (by rw [hpt.out, ← List.append_assoc, ho'])
          rw [ho'] at ho hdl
          clear ho' hpt
          go_upto_region 15 with fail
          generalize hWW : World.alloc _ _ = W4
          have ky : At W4 wr.heap.size 57 #[.string xt, .string xm, .int .i64 xc, .int .i64 xs] := by rw [← hWW]; exact At.new' rfl
          have hbW : Below wr.heap.size wr W4 := by rw [← hWW]; exact below_al (Below.refl _ _) _
          have q0 : W4.cell? ⟨wr.heap.size, 0, none⟩ = some (.string xt) := ky.c 0
          replace ho := Lib.hid (World.ownsRow_up ho.out hbW)
          replace HB := below_then HB hbW
          clear hWW hbW f0 f1 f2 f3 ky
          go_wp2_with (at_builtin; refine wpList_append_own_at _ rfl _ _ 30 rfl w.heap.size 39 i0 (.agg #[.int .i64 0, .int .i64 0, .string ⟨#[]⟩]) 3 32 Tryz.underlying30 hi hz0 hz1 hz2 rfl (by decide) _ _ _ rfl (World.ownsRow.alloc ho.out _) ⟨W4.heap.size, 0, none⟩ 1 1 [.int .i64 (k : Int), .int .i64 2, .string xt] rfl rfl (three_new (At.new _ _ _)) (by intro u hu; simp at hu; rcases hu with rfl | rfl | rfl <;> rfl) (by unfold maxLen; omega) (by omega) (by have := HB.size; simp; omega) ?_)
          intro v' w5 ho1 hg1 hnil hloc
          have hb1 : Below w.heap.size w w5 := below_grown HB ((World.grownBy_alloc _ _ _).trans hg1) (fun b hb => (own_lt ho.out hb).2)
          have ho2 : Hid (w5.ownsRow w.heap.size 39 3 v' (delA tags L 0 ++ plaE (tags.take (j + 1)) k).length ((delA tags L 0 ++ plaE (tags.take (j + 1)) k).flatMap encE)) := Lib.hid (by
            rw [hnx.out, List.length_append, List.flatMap_append]
            exact ho1)
          clear hg1 hnil hloc ho1 ho q0
          go_wp2_with fail
          go_roundg (n - (j + 1))
          case measure => have := hr2.out; omega
          case rel => exact ⟨j + 1, _, rfl, by omega, by go_num, Lib.hid rfl, hb1, ho2⟩
        · have hdl : (delA tags L 0 ++ plaE (tags.take j) k).length ≤ 800 := by
            rw [List.length_append, show (plaE (tags.take j) k).length = min j tags.length by unfold plaE; rw [List.length_map, List.length_take]]
            omega
          obtain ⟨o, ho'⟩ : ∃ o, delA tags L 0 ++ plaE (tags.take j) k = o := ⟨_, rfl⟩
          have hnx : Hid (yardE tags L = o ++ [⟨(k : Int), 5, ⟨#[109]⟩⟩]) := Lib.hid (by
            rw [← ho', List.take_of_length_le (by have := htl.out; have := hn'.out; omega)]
            unfold yardE
            rw [hnO.out])
          rw [ho'] at ho hdl
          clear ho'
          go_wp2_with (at_builtin; refine wpList_append_own_at _ rfl _ _ 30 rfl w.heap.size 39 i0 (.agg #[.int .i64 0, .int .i64 0, .string ⟨#[]⟩]) 3 32 Tryz.underlying30 hi hz0 hz1 hz2 rfl (by decide) _ _ _ rfl (World.ownsRow.alloc ho.out _) ⟨wr.heap.size, 0, none⟩ 1 1 [.int .i64 (k : Int), .int .i64 5, .string ⟨#[109]⟩] rfl rfl (three_new (At.new _ _ _)) (by intro u hu; simp at hu; rcases hu with rfl | rfl | rfl <;> rfl) (by unfold maxLen; omega) (by omega) (by have := HB.size; simp; omega) ?_)
          intro v' w5 ho1 hg1 hnil hloc
          have hb1 : Below w.heap.size w w5 := below_grown HB ((World.grownBy_alloc _ _ _).trans hg1) (fun b hb => (own_lt ho.out hb).2)
          have ho2 : Hid (IsE (yardE tags L) v' w5) := Lib.hid (by
            rw [hnx.out]
            refine row_isE (base := w.heap.size) ?_
            rw [List.length_append, List.flatMap_append]
            exact ho1)
          clear hg1 hnil hloc ho1 ho
          go_wp2_with fail
          go_ret
          exact ⟨⟨v', rfl, ho2.out⟩, hb1⟩
end Go.Proofs.YtcokobdffbhpeaaGreatDoor
