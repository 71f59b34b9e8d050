/- lorry.heaviest, lorry.Greedy: the order is a permutation. -/
import Derived.Test.YtjlkbmaigcgnbaaDoorBJ26
import Derived.Test.YtjlkbmaigcgnbaaDoorBJ27
import Derived.Test.YtjlkbmaigcgnbaaDoorBJ19
set_option linter.unusedVariables false
namespace Go.Proofs.YtjlkbmaigcgnbaaDoor
open Go.ChangeShapes Go.WideShapes Go.ChangeAt Go.RowKit
set_option maxRecDepth 100000 in
set_option maxHeartbeats 1000000 in
theorem sortP_any (g c n X : Nat) (w : World) (Q : World → Prop)
    (HI : Hid (Calls Tryd.prog 67 #[.slice (some ⟨g, 0, none⟩) n c, .int .i64 (n : Int), .func (.func 48) #[] #[.pointer (some ⟨X, 0, none⟩)]] w fun e w' => e = .returned (.tuple #[]) ∧ Q w')) :
    Calls Tryd.prog 47 #[.slice (some ⟨g, 0, none⟩) n c, .func (.func 48) #[] #[.pointer (some ⟨X, 0, none⟩)]] w fun e w' => e = .returned (.tuple #[]) ∧ Q w' := by
  go_enter Tryd.func47, Tryd.ntmps47
  go_wp2_with fail
  refine HI.out.mono ?_
  rintro e w1 ⟨rfl, hq⟩
  replace hq := Lib.hid hq
  go_wp2_with fail
  go_end0
  exact ⟨rfl, hq.out⟩
def HeaE (n B : Nat) (e : Ending) (w' : World) : Prop := ∃ (v : Value) (D : List Nat), e = .returned v ∧ D.Perm (List.range n) ∧ w'.ownsRow B 3 1 v n (natV D)
def SrtE (n B : Nat) (v : Value) (w' : World) : Prop := ∃ D : List Nat, D.Perm (List.range n) ∧ w'.ownsRow B 3 1 v n (natV D)
set_option maxRecDepth 100000 in
set_option maxHeartbeats 1000000 in
theorem heaviestP_any (l : List Bun) (a : Option Addr) (c : Nat) (hl : l.length ≤ c) (hn : l.length ≤ 1000) (hm : Hid (∀ j, 0 ≤ massN l j ∧ massN l j ≤ 1099511627776)) (w : World) (hr : RowAt encB 4 w.heap.size w a l) :
    Calls Tryd.prog 27 #[.slice a l.length c] w fun e w' => HeaE l.length w.heap.size e w' ∧ Below w.heap.size w w' := by
  obtain ⟨i0, hi, hz0, hz1, hz2⟩ := info_parts infoInt
  obtain ⟨n, hn'⟩ : ∃ n, l.length = n := ⟨_, rfl⟩
  rw [hn'] at hl hn ⊢
  have HSo : Hid (∀ (W : World) (v : Value) (X : Nat), Below w.heap.size w W → X < W.heap.size → w.heap.size ≤ X → W.cell? ⟨X, 0, none⟩ = some (.slice a n c) → ∀ W2, Below W.heap.size W W2 → W2.ownsRow W.heap.size 3 1 v n (natV (List.range n)) → Calls Tryd.prog 47 #[v, .func (.func 48) #[] #[.pointer (some ⟨X, 0, none⟩)]] W2 fun e w' => e = .returned (.tuple #[]) ∧ (SrtE n W.heap.size v w' ∧ Below W.heap.size W2 w')) := Lib.hid fun W v X hW hX hX2 kx W2 hW2 ho => by
    have hrW : RowAt encB 4 W.heap.size W2 a l := ((hr.bel (Nat.le_refl _) hW).mono hW.size).bel (Nat.le_refl _) hW2
    by_cases h0 : n = 0
    · have hv : v = .slice none 0 0 ∨ ∃ g cap, v = .slice (some ⟨g, 0, none⟩) n cap := by
        obtain ⟨_, ⟨h1, h2⟩ | ⟨g, cap, cur, h1, _⟩⟩ := ho
        · exact .inl h1
        · exact .inr ⟨g, cap, h1⟩
      rcases hv with rfl | ⟨g, cap, rfl⟩
      · subst h0
        refine sort_core none 0 0 X (by omega) W2 _ (Lib.hid ((insZ_any X W2).mono ?_))
        rintro e w' ⟨rfl, rfl⟩
        exact ⟨rfl, ⟨[], List.Perm.refl _, World.ownsRow_nil _ _ _ _⟩, Below.refl _ _⟩
      · subst h0
        refine sort_core _ 0 cap X (by omega) W2 _ (Lib.hid ((insS_any g cap X W2).mono ?_))
        rintro e w' ⟨rfl, rfl⟩
        exact ⟨rfl, ⟨[], List.Perm.refl _, ho⟩, Below.refl _ _⟩
    · obtain ⟨g, cap, rfl, _⟩ := own_some ho (by omega)
      have hXb : X < W.heap.size := hX
      have HC := Lib.hid (fun (i k : Nat) (hi : i < n) (hk : k < n) (W3 : World) (hW3 : Below W.heap.size W2 W3) => cmpF_any l a c i k X (by rw [hn']; exact hi) (by rw [hn']; exact hk) W.heap.size W3 (by rw [hn']; exact hl) hm (by rw [hn']; exact (hW3.cell (p := ⟨X, 0, none⟩) hXb).trans ((hW2.cell (p := ⟨X, 0, none⟩) hX).trans kx)) (Lib.hid (fun q hq => by
        obtain ⟨b, off, e, hlt, hcc⟩ := hrW q hq
        exact ⟨b, off, e, hlt, fun j u hu => (hW3.cell hlt).trans (hcc j u hu)⟩)))
      refine sortP_any _ cap n X W2 _ (Lib.hid ((stableP_any (massN l) X W.heap.size g cap n W2 hn hW2.size HC (List.range n) W2 (fun y hy => by simpa using hy) (Below.refl _ _) ⟨ho, by simp⟩).mono ?_))
      rintro e w' ⟨rfl, D', q1, q2, q3⟩
      exact ⟨rfl, ⟨D', q1, q2.row⟩, q3⟩
  have hn3 := hn
  clear hr hm hn'
  go_enter Tryd.func27, Tryd.ntmps27
  go_wp2_with fail
  generalize hWW : World.alloc w _ = WW
  have kx : At WW w.heap.size 25 #[.slice a n c] := by rw [← hWW]; exact At.new' rfl
  have HB : Below w.heap.size w WW := by rw [← hWW]; exact below_al (Below.refl _ _) _
  clear hWW
  have x0 : WW.cell? ⟨w.heap.size, 0, none⟩ = some (.slice a n c) := kx.c 0
  have hXl := Lib.hid kx.lt
  clear kx
  have hx00 := Lib.hid x0
  go_wp2_with fail
  go_loopg [7, 3] n (fun g i u wr => ∃ (k : Nat) (u0 : Value), u0 = u ∧ k ≤ n ∧ i = .int .i64 (k : Int) ∧ Hid (g = n - k) ∧ Below WW.heap.size WW wr ∧ Hid (wr.ownsRow WW.heap.size 3 1 u k (natV (List.range k))))
  case atStart => exact ⟨0, _, rfl, Nat.zero_le _, rfl, Lib.hid rfl, Below.refl _ _, Lib.hid (World.ownsRow_nil _ _ _ _)⟩
  case round =>
    clear x0
    obtain ⟨k, u, rfl, hk, rfl, hr, HB2, ho⟩ := hrel
    have x0 : wr.cell? ⟨w.heap.size, 0, none⟩ = some (.slice a n c) := cell_up HB2 hx00.out
    by_cases hlt : k < n
    · have hran : natV (List.range (k + 1)) = natV (List.range k) ++ [.int .i64 (k : Int)] := by rw [List.range_succ, natV_app]; rfl
      go_wp2_with (at_builtin; refine wpList_append_own_at _ rfl _ _ 42 rfl WW.heap.size 3 i0 (.int .i64 0) 1 8 Tryd.underlying42 hi hz0 hz1 hz2 rfl (by decide) _ _ _ rfl (World.ownsRow.alloc ho.out _) ⟨wr.heap.size, 0, none⟩ 1 1 [.int .i64 (k : Int)] rfl rfl (cell_one_new _ _ _) (by intro u hu; simp at hu; subst hu; rfl) (by unfold maxLen; omega) (by omega) (by have := HB2.size; simp; omega) ?_)
      intro v' w5 ho1 hg1 hnil hloc
      have hb1 : Below WW.heap.size WW w5 := below_grown HB2 ((World.grownBy_alloc _ _ _).trans hg1) (fun b hb => (own_lt ho.out hb).2)
      have ho2 : Hid (w5.ownsRow WW.heap.size 3 1 v' (k + 1) (natV (List.range (k + 1)))) := Lib.hid (by rw [hran]; exact ho1)
      clear hg1 hnil hloc ho1 x0 ho
      go_wp2_with fail
      go_roundg (n - (k + 1))
      case measure => have := hr.out; omega
      case rel => exact ⟨k + 1, _, rfl, by omega, by go_num, Lib.hid rfl, hb1, ho2⟩
    · have hkn : k = n := by omega
      subst hkn
      have HS := Lib.hid (HSo.out WW u w.heap.size HB hXl.out (Nat.le_refl _) hx00.out wr HB2 ho.out)
      clear HSo ho
      go_wp2_with fail
      refine HS.out.mono ?_
      rintro e w4 ⟨rfl, ⟨D', q1, ho4⟩, hb4⟩
      have hD := Lib.hid q1
      have ho5 := Lib.hid (own_weak ho4 HB.size)
      have HB4 : Below w.heap.size w w4 := below_then HB (HB2.trans hb4)
      clear HS ho4 hb4 x0 q1
      go_wp2_with fail
      go_ret
      exact ⟨⟨u, D', rfl, hD.out, ho5.out⟩, HB4⟩
def GreE (l : List Bun) (most : Int) (B : Nat) (e : Ending) (w' : World) : Prop := ∃ (o : List Nat) (v vm : Value) (vs : List Value), o.Perm (List.range l.length) ∧ e = .returned (.tuple #[v, .int .i64 0]) ∧ GrX B w' (greedG (massN l) most o).1 (greedG (massN l) most o).2 v vm vs vs
theorem greed_takeO {f : Nat → Int} {most : Int} {o : List Nat} {k : Nat} (h : ∀ i ∈ o, 0 ≤ f i ∧ f i ≤ most) : GOk f most (greedG f most (o.take k)) (o.take k) := by
  have := GOk.run (o.take k) _ _ (GOk.nil f most) (fun i hi => h i (List.mem_of_mem_take hi))
  rwa [List.nil_append] at this
set_option maxRecDepth 100000 in
set_option maxHeartbeats 4000000 in
theorem greedyP_any (l : List Bun) (a : Option Addr) (c : Nat) (most : Int) (hl : l.length ≤ c) (hc : c ≤ 9223372036854775807) (hn : l.length ≤ 900) (hs : Hid (∀ x ∈ l, x.tag.size ≤ 60 ∧ x.mark.size ≤ 60)) (w : World) (hr : Hid (RowAt encB 4 w.heap.size w a l)) :
    Calls Tryd.prog 10 #[.slice a l.length c, .int .i64 most] w fun e w' => (givE l most ≠ 0 → e = .returned (.tuple #[.slice none 0 0, .int .i64 (givE l most)])) ∧ (givE l most = 0 → GreE l most w.heap.size e w') ∧ Below w.heap.size w w' := by
  obtain ⟨i0, hi, hz0, hz1, hz2⟩ := info_parts infoInt
  obtain ⟨j0, hj, hj0, hj1, hj2⟩ := info_parts infoIS
  have HG := Lib.hid (fun (W : World) (hW : Below w.heap.size w W) => lgiven_any l a c most hl hc hs W (Lib.hid ((hr.out.bel (Nat.le_refl _) hW).mono hW.size)))
  obtain ⟨ge, hge⟩ : ∃ ge, givE l most = ge := ⟨_, rfl⟩
  have hgk : Hid (ge = 0 → GivK l most) := Lib.hid fun h => givK (hge.trans h)
  rw [hge] at HG ⊢
  have HH := Lib.hid (fun (hk : GivK l most) (W : World) (hW : Below w.heap.size w W) => heaviestP_any l a c hl (by omega) (Lib.hid hk.mass) W ((hr.out.bel (Nat.le_refl _) hW).mono hW.size))
  have HF := Lib.hid (fun (hk : GivK l most) (i X Y Z : Nat) (x : Int) (hi : i < l.length) (hx : 0 ≤ x ∧ x ≤ 1099511627776) (W : World) (hW : Below w.heap.size w W) => greedF_any l a c i X Y Z x most hi hl w.heap.size W hx (hk.mass i))
  have hrow := Lib.hid (fun (W : World) (hW : Below w.heap.size w W) => (show RowAt encB 4 w.heap.size W a l from hr.out.bel (Nat.le_refl _) hW))
  obtain ⟨n, hn'⟩ : ∃ n, l.length = n := ⟨_, rfl⟩
  rw [hn'] at HG HH HF hl hn
  rw [hn']
  replace hn' := Lib.hid hn'
  obtain ⟨f, hf⟩ : ∃ f, massN l = f := ⟨_, rfl⟩
  replace hf := Lib.hid hf
  have hgt : Hid (ge = 0 → ∀ o : List Nat, (∀ i ∈ o, i < n) → ∀ k, GOk f most (greedG f most (o.take k)) (o.take k)) := Lib.hid fun h o ho k => by
    have hk := hgk.out h
    exact greed_takeO (fun i hi => by rw [← hf.out]; exact hk.fit i (by rw [hn'.out]; exact ho i hi))
  have hEnd := Lib.hid (fun (o : List Nat) (v vm : Value) (vs : List Value) (w' : World) (h1 : o.Perm (List.range n)) (h2 : GrX w.heap.size w' (greedG f most o).1 (greedG f most o).2 v vm vs vs) => show GreE l most w.heap.size (.returned (.tuple #[v, .int .i64 0])) w' from ⟨o, v, vm, vs, by rw [hn'.out]; exact h1, rfl, by rw [hf.out]; exact h2⟩)
  clear hr hs hge
  go_enter Tryd.func10, Tryd.ntmps10
  go_wp2_with fail
  generalize hWW : World.alloc (World.alloc w _) _ = WW
  have kx : At WW w.heap.size 25 #[.slice a n c] := by rw [← hWW]; repeat (first | (with_reducible apply At.new'; (focus (simp; done))) | with_reducible apply At.al | with_reducible apply At.drw | with_reducible apply At.dr)
  have ky : At WW (w.heap.size + 1) 3 #[.int .i64 most] := by rw [← hWW]; repeat (first | (with_reducible apply At.new'; (focus (simp; done))) | with_reducible apply At.al | with_reducible apply At.drw | with_reducible apply At.dr)
  have HB : Below w.heap.size w WW := by rw [← hWW]; exact below_al (below_al (Below.refl _ _) _) _
  clear hWW
  have x0 : WW.cell? ⟨w.heap.size, 0, none⟩ = some (.slice a n c) := kx.c 0
  have y0 : WW.cell? ⟨w.heap.size + 1, 0, none⟩ = some (.int .i64 most) := ky.c 0
  go_wp2_with fail
  refine (HG.out _ HB).mono ?_
  rintro e w1 ⟨rfl, hb⟩
  replace HB := below_then HB hb
  replace kx := kx.bel hb
  replace ky := ky.bel hb
  clear hb HG x0 y0
  by_cases hg0 : ge = 0
  rotate_left
  · have g1 : (ge != 0) = true := by simp [hg0]
    replace hg0 := Lib.hid hg0
    clear HH HF
    go_wp2_with fail
    exact bodyPost_ret (v := .tuple #[.slice none 0 0, .int .i64 ge]) (by simp [results, Tryd.results10, go_sem]) rfl ⟨fun _ => rfl, fun h => absurd h hg0.out, HB⟩
  have hk := hgk.out hg0
  have hGt0 := Lib.hid (hgt.out hg0)
  subst hg0
  have HHk := Lib.hid (HH.out hk)
  have HFk := Lib.hid (HF.out hk)
  have hmb : Hid (∀ i, i < n → 0 ≤ f i ∧ f i ≤ most) := Lib.hid fun i hi => by rw [← hf.out]; exact hk.fit i (by rw [hn'.out]; exact hi)
  have hpos := hk.pos
  clear hk HH HF hgk hgt
  have x0 : w1.cell? ⟨w.heap.size, 0, none⟩ = some (.slice a n c) := kx.c 0
  go_wp2_with fail
  refine (HHk.out _ HB).mono ?_
  rintro e w2 ⟨⟨hv, ord, rfl, hpm, ho⟩, hb⟩
  have hol : Hid (ord.length = n ∧ ∀ i ∈ ord, i < n) := Lib.hid ⟨by rw [hpm.length_eq, List.length_range], fun i hi => by simpa using hpm.mem_iff.1 hi⟩
  have hGt := Lib.hid (hGt0.out ord hol.out.2)
  replace hpm := Lib.hid hpm
  obtain ⟨S, hS⟩ : ∃ S, greedG f most ord = S := ⟨_, rfl⟩
  replace hS := Lib.hid hS
  clear hGt0
  have HBw := Lib.hid (below_then HB hb)
  replace kx := kx.bel hb
  replace ky := ky.bel hb
  obtain ⟨ha, hcp, rfl⟩ := own_slice ho
  have hord2 : Hid (∀ (k : Nat) (hk : k < ord.length), ∃ g, ha = some ⟨g, 0, none⟩ ∧ w2.cell? ⟨g, k, none⟩ = some (.int .i64 (ord[k] : Int))) := Lib.hid fun k hk => by
    obtain ⟨g, cap, e, -, -, -, -, -, hcc⟩ := own_some ho (by have := hol.out.1; omega)
    injection e with e1 e2 e3
    exact ⟨g, e1, hcc k _ (by unfold natV; rw [List.getElem?_map, List.getElem?_eq_getElem hk]; rfl)⟩
  have hxl := Lib.hid kx.lt
  have hyl := Lib.hid ky.lt
  have hx0 := Lib.hid (show w2.cell? ⟨w.heap.size, 0, none⟩ = some (.slice a n c) from kx.c 0)
  have hy0 := Lib.hid (show w2.cell? ⟨w.heap.size + 1, 0, none⟩ = some (.int .i64 most) from ky.c 0)
  clear hb HHk x0 ho kx ky HB
  go_wp2_with fail
  go_loopg [21, 7, 8] n (fun g i q r wr => ∃ (k : Nat) (vo vm : Value) (vs : List Value), vo = q ∧ vm = r ∧ k ≤ n ∧ i = .int .i64 (k : Int) ∧ Hid (g = n - k) ∧ Below w2.heap.size w2 wr ∧ Hid (GrX w2.heap.size wr (greedG f most (ord.take k)).1 (greedG f most (ord.take k)).2 vo vm vs vs))
  case atStart => exact ⟨0, _, _, [], rfl, rfl, Nat.zero_le _, rfl, Lib.hid rfl, Below.refl _ _, Lib.hid (GrX.nil _ _)⟩
  case round =>
    obtain ⟨k, vo, vm, vs, rfl, rfl, hk, rfl, hr, HB, hG⟩ := hrel
    by_cases hlt : k < n
    · have hko : Hid (k < ord.length) := Lib.hid (by rw [hol.out.1]; exact hlt)
      obtain ⟨gh, rfl, c0⟩ := hord2.out k hko.out
      replace c0 := cell_up HB c0
      have hxn := hol.out.2 _ (List.getElem_mem hko.out)
      have hstp := Lib.hid (greedG_take (f := f) (most := most) hko.out)
      obtain ⟨x, hx⟩ : ∃ x, ord[k]'hko.out = x := ⟨_, rfl⟩
      rw [hx] at c0 hxn hstp
      clear hx
      have hOk := Lib.hid (hGt.out k)
      obtain ⟨P, hP⟩ : ∃ P, greedG f most (ord.take k) = P := ⟨_, rfl⟩
      rw [hP] at hG hstp hOk
      clear hP
      have hfx := hmb.out x hxn
      have hMid := Lib.hid (hOk.out.mid hfx)
      have hgs : Hid (gStep f most P x = ((moreG most (f x) P).1.modify (pickG most (f x) P.2) (· ++ [x]), (moreG most (f x) P).2.modify (pickG most (f x) P.2) (· + f x))) := Lib.hid rfl
      have hor := moreG_or most (f x) P
      have hfx2 : Hid (fxI (fun n => decide (n + f x ≤ most)) P.2 = if pickG most (f x) P.2 < P.2.length then (pickG most (f x) P.2 : Int) else -1) := Lib.hid rfl
      obtain ⟨kk, hkk⟩ : ∃ kk, pickG most (f x) P.2 = kk := ⟨_, rfl⟩
      obtain ⟨M, hM⟩ : ∃ M, moreG most (f x) P = M := ⟨_, rfl⟩
      rw [hkk, hM] at hMid hgs hor
      rw [hkk] at hfx2
      clear hkk hM
      obtain ⟨am, cm, rfl, m1, m2, m3⟩ := hG.out.moreO
      have hle := Lib.hid hOk.out.le
      have hlen := hOk.out.len
      have hfew := hOk.out.few
      have htk : (ord.take k).length ≤ n := by rw [List.length_take]; omega
      go_upto_region 9 with fail
      generalize hWW : World.alloc wr _ = W3
      have kz : At W3 wr.heap.size 3 #[.int .i64 (x : Int)] := by rw [← hWW]; exact At.new' rfl
      have hbW : Below wr.heap.size wr W3 := by rw [← hWW]; exact below_al (Below.refl _ _) _
      have HB3 := below_then HB hbW
      have hG3 := Lib.hid (hG.out.up hbW)
      have HBW3 := Lib.hid (below_then HBw.out HB3)
      have z0 : W3.cell? ⟨wr.heap.size, 0, none⟩ = some (.int .i64 (x : Int)) := kz.c 0
      have HI := Lib.hid (idxInt P.2 am cm m1 m2 _ W3 (Nat.le_refl _) (Lib.hid ((m3.bel (Nat.le_refl _) hbW).mono hbW.size)) 29 (.pointer (some ⟨w.heap.size, 0, none⟩)) (.pointer (some ⟨wr.heap.size, 0, none⟩)) (.pointer (some ⟨w.heap.size + 1, 0, none⟩)) (fun args w => by simp [go_sem]) (fun n => decide (n + f x ≤ most)) (Lib.hid fun y hy W hW => by
        have hW2 := below_then HB3 hW
        have := HFk.out x w.heap.size (w.heap.size + 1) wr.heap.size y hxn (by have := hle.out y hy; omega) W (below_then HBW3.out hW) (cell_up hW2 hx0.out) (cell_up hW z0) (cell_up hW2 hy0.out) (Lib.hid (hrow.out W (below_then HBW3.out hW)))
        rw [hf.out] at this
        exact this))
      rw [hfx2.out] at HI
      obtain ⟨Z, hZ⟩ : ∃ Z, wr.heap.size = Z := ⟨_, rfl⟩
      have hkz := Lib.hid kz
      rw [hZ] at HI hkz ⊢
      clear hWW hbW HB c0 m3 kz z0 hle
      have hzw := Lib.hid (show GrZ Z vo (.slice am P.2.length cm) vs from hZ ▸ hG.out.away)
      clear hG hZ
      obtain ⟨r, hr9⟩ : ∃ r : Int, (if kk < P.2.length then (kk : Int) else -1) = r := ⟨_, rfl⟩
      rw [hr9] at HI
      have hvn := hG3.out.n
      obtain ⟨ao, co, hvo⟩ := own_slice hG3.out.o
      subst hvo
      obtain ⟨nv, hnv⟩ : ∃ nv, vs.length = nv := ⟨_, rfl⟩
      obtain ⟨nm, hnm⟩ : ∃ nm, P.2.length = nm := ⟨_, rfl⟩
      rw [hnm] at HI hr9 hor hG3 hzw m1 ⊢
      rw [hnv] at hG3 hzw ⊢
      replace hnv := Lib.hid hnv
      replace hnm := Lib.hid hnm
      have hnvm : nv = nm := by rw [← hnv.out, hvn, hlen, hnm.out]
      have hnn : nm ≤ n := by rw [← hnm.out, ← hlen]; omega
      subst hnvm
      clear hvn hlen hfew htk
      replace hfx2 : Hid True := Lib.hid trivial
      go_wp2_with fail
      refine (HI.out).mono ?_
      rintro e w4 ⟨rfl, hb4⟩
      have HB4 := below_then HB3 hb4
      have hG4 := Lib.hid (hG3.out.up hb4)
      have hkz4 := Lib.hid (hkz.out.bel hb4)
      clear HI HB3 hG3 hkz hb4 HBW3
      go_upto_if 29 with fail
      go_cut [11, 7, 8] (fun v11 v7 v8 wc => ∃ (vo vm : Value) (vs : List Value), v11 = .int .i64 (kk : Int) ∧ vo = v7 ∧ vm = v8 ∧ Below w2.heap.size w2 wc ∧ Hid (GrX w2.heap.size wc M.1 M.2 vo vm vs vs) ∧ Hid (GrZ Z vo vm vs) ∧ Hid (At wc Z 3 #[.int .i64 (x : Int)]))
      case first =>
        rcases hor with ⟨hp, hM2⟩ | ⟨hp, hM2⟩
        · rw [if_pos hp] at hr9
          subst hr9
          have g1 : decide ((kk : Int) < 0) = false := decide_eq_false (by omega)
          go_wp2_with fail
          go_meet
          exact ⟨_, _, vs, rfl, rfl, rfl, HB4, by rw [hM2]; exact hG4, hzw, hkz4⟩
        · rw [if_neg (by omega)] at hr9
          subst hr9
          subst hp
          go_wp2_with (at_builtin; refine wpList_append_own_at _ rfl _ _ 35 rfl w2.heap.size 42 j0 (.slice none 0 0) 1 24 Tryd.underlying35 hj hj0 hj1 hj2 rfl (by decide) _ _ _ rfl (World.ownsRow.alloc hG4.out.o _) ⟨w4.heap.size, 0, none⟩ 1 1 [.slice none 0 0] rfl rfl (cell_one_new _ _ _) (by intro u hu; simp at hu; subst hu; rfl) (by unfold maxLen; have := hnv.out; omega) (by have := hnv.out; omega) (by have := HB4.size; simp; omega) ?_)
          intro vo' w5 ho5 hg5 hnil5 hloc5
          have hGa := hG4.out.up (below_al (Below.refl _ _) (.cells #[.slice none 0 0] 42))
          have hZa : Z < w4.heap.size := hkz4.out.lt
          have hG5 := hGa.pushO hg5 ho5 (by simpa using hloc5)
          have HB5 := GrX.below hGa.o rfl (below_al HB4 _) hg5
          have hkz5 := at_grown (At.al hkz4.out _) hg5 hzw.out.o
          have hz5 : GrZ Z vo' (.slice am kk cm) (vs ++ [.slice none 0 0]) := by
            refine ⟨new_ne hzw.out.o hloc5 (by omega), hzw.out.m, fun j hj => ?_⟩
            by_cases q : j < vs.length
            · rw [List.getElem_append_left q]; exact hzw.out.v j q
            · rw [List.getElem_append_right (by omega)]
              simp only [List.getElem_singleton]
              intro e; cases e
          have hZ5 : Z < w5.heap.size := hkz5.lt
          replace hG5 := Lib.hid hG5
          replace hkz5 := Lib.hid hkz5
          replace hz5 := Lib.hid hz5
          clear hGa ho5 hg5 hnil5 hloc5 hG4 hkz4 HB4 hzw
          go_wp2_with (at_builtin; refine wpList_append_own_at _ rfl _ _ 42 rfl w2.heap.size 3 i0 (.int .i64 0) 1 8 Tryd.underlying42 hi hz0 hz1 hz2 rfl (by decide) _ _ _ rfl (World.ownsRow.alloc hG5.out.m _) ⟨w5.heap.size, 0, none⟩ 1 1 [.int .i64 0] rfl rfl (cell_one_new _ _ _) (by intro u hu; simp at hu; subst hu; rfl) (by unfold maxLen; have := hnm.out; omega) (by have := hnm.out; omega) (by have := HB5.size; simp; omega) ?_)
          intro vm' w6 ho6 hg6 hnil6 hloc6
          have hGb := hG5.out.up (below_al (Below.refl _ _) (.cells #[.int .i64 0] 3))
          have hG6 := hGb.pushM (z := 0) hg6 ho6 (by simpa using hloc6)
          have HB6 := GrX.below hGb.m rfl (below_al HB5 _) hg6
          have hkz6 := at_grown (At.al hkz5.out _) hg6 hz5.out.m
          have hz6 : GrZ Z vo' vm' (vs ++ [.slice none 0 0]) := ⟨hz5.out.o, new_ne hz5.out.m hloc6 (by omega), hz5.out.v⟩
          replace hG6 := Lib.hid hG6
          replace hkz6 := Lib.hid hkz6
          replace hz6 := Lib.hid hz6
          clear hGb ho6 hg6 hnil6 hloc6 hG5 hkz5 HB5 hz5
          go_wp2_with fail
          go_meet
          exact ⟨_, _, _, rfl, rfl, rfl, HB6, by rw [hM2]; exact hG6, hz6, hkz6⟩
      case rest =>
        clear HB4 hG4 hzw hkz4 hor hr9 m1 m2 hnv hnm hnn
        obtain ⟨vo, vm, vs, rfl, rfl, rfl, HB, hG, hzv, hkz⟩ := hcut
        have hkM := hMid.out.lt
        have hvn := hG.out.n
        have hkv : kk < vs.length := by omega
        have hkm : kk < M.2.length := by rw [← hMid.out.len]; exact hkM
        obtain ⟨g0, co, rfl, o1, o2, o3, o4, ofr, ocell⟩ := own_some hG.out.o (by omega)
        have c0 : wc.cell? ⟨g0, kk, none⟩ = some vs[kk] := ocell kk _ (List.getElem?_eq_getElem hkv)
        have hEach := hG.out.each kk hkv hkM
        have hll : M.1[kk].length ≤ n := by
          have h1 := (List.sublist_flatten_of_mem (List.getElem_mem hkM)).length_le
          have h2 := hMid.out.perm.length_eq
          rw [List.length_take] at h2
          omega
        obtain ⟨av, cv, hvk⟩ := own_slice hEach
        have hzk := hzv.out.v kk hkv
        have hPush := Lib.hid (fun (Wa w5 : World) (v' : Value) (hb : Below wc.heap.size wc Wa) (hg : Wa.grownBy w5 vs[kk].ownBlock) (ho : w5.ownsRow w2.heap.size 3 1 v' (M.1[kk].length + 1) (natV M.1[kk] ++ [.int .i64 (x : Int)])) (hl : v'.ownBlock = vs[kk].ownBlock ∨ v'.ownBlock = some Wa.heap.size) => And.intro ((hG.out.up hb).setV hkv hkM hg ho hl) (GrX.below ((hG.out.up hb).each kk hkv hkM) rfl (below_le HB (hb.mono HB.size)) hg))
        rw [hvk] at c0 hEach hPush hzk
        obtain ⟨nl, hnl⟩ : ∃ nl, M.1[kk].length = nl := ⟨_, rfl⟩
        rw [hnl] at c0 hEach hPush hzk hll
        have hvk2 := Lib.hid hvk
        obtain ⟨nO, hnO⟩ : ∃ nO, vs.length = nO := ⟨_, rfl⟩
        have hvs2 := Lib.hid hkv
        rw [hnO] at hG hzv hPush hkv o1 ⊢
        have hMf := hMid.out.few
        have hnOb : nO ≤ 1000 := by
          rw [List.length_take] at hMf
          omega
        have hPu : Hid (∀ Wa w5 g5 c5, Below wc.heap.size wc Wa → w5.ownsRow w2.heap.size 3 1 (.slice g5 (nl + 1) c5) (nl + 1) (natV M.1[kk] ++ [.int .i64 (x : Int)]) → Wa.grownBy w5 (Value.slice av nl cv).ownBlock → ((Value.slice g5 (nl + 1) c5).ownBlock = (Value.slice av nl cv).ownBlock ∨ (Value.slice g5 (nl + 1) c5).ownBlock = some Wa.heap.size) →
            w5.cell? ⟨g0, kk, none⟩ = some (.slice av nl cv) ∧ w5.frozen? ⟨g0, kk, none⟩ = false ∧ Hid (GrX w2.heap.size (w5.setCell ⟨g0, kk, none⟩ (.slice g5 (nl + 1) c5)) (M.1.modify kk (· ++ [x])) M.2 (.slice (some ⟨g0, 0, none⟩) nO co) vm (vs.set kk (.slice g5 (nl + 1) c5)) (vs.set kk (.slice g5 (nl + 1) c5))) ∧ Hid (Below w2.heap.size w2 (w5.setCell ⟨g0, kk, none⟩ (.slice g5 (nl + 1) c5))) ∧ Hid (At (w5.setCell ⟨g0, kk, none⟩ (.slice g5 (nl + 1) c5)) Z 3 #[.int .i64 (x : Int)])) := Lib.hid fun Wa w5 g5 c5 hb ho5 hg5 hl5 => by
          obtain ⟨h1, h2⟩ := hPush.out Wa w5 _ hb hg5 ho5 hl5
          obtain ⟨g', cap', e, -, -, -, -, ofr2, ocell2⟩ := own_some h1.o (by omega)
          injection e with e1 e2 e3
          injection e1 with e1
          injection e1 with e1
          subst e1
          refine ⟨?_, ofr2 kk, Lib.hid (h1.putO (g := g0) rfl hvs2.out _), Lib.hid (h2.setCell o3 _), Lib.hid (At.far (at_grown (At.bel hkz.out hb) hg5 hzk) (fun e => hzv.out.o (by rw [e]; rfl)) _)⟩
          rw [ocell2 kk _ (List.getElem?_eq_getElem hvs2.out), hvk2.out, hnl]
        replace hPu := hPu
        have z0 : wc.cell? ⟨Z, 0, none⟩ = some (.int .i64 (x : Int)) := hkz.out.c 0
        have hbz := Lib.hid HB.size
        have hfin := Lib.hid (show kk < M.2.length from hkm)
        clear hPush hG hzv hkz hvk ofr ocell hMf hvn hzk HB
        go_upto_region 13 with fail
        go_region_law (refine step_append_at _ rfl (.tmp 43) (.tmp 45) 42 rfl w2.heap.size 3 i0 (.int .i64 0) 1 8 Tryd.underlying42 hi hz0 hz1 hz2 rfl (by decide) (.slice av nl cv) nl (natV M.1[kk]) (by simp [Act.eval]) (by first | exact World.ownsRow.alloc (World.ownsRow.drew hEach) _ | exact World.ownsRow.drew (World.ownsRow.alloc hEach _) | exact World.ownsRow.alloc hEach _) ⟨wc.heap.size, 0, none⟩ 1 1 [.int .i64 (x : Int)] (by simp [Act.eval]) rfl (by first | exact cell_one_new _ _ _ | exact cell_one_new wc _ _) (by intro u hu; simp at hu; subst hu; rfl) (by unfold maxLen; omega) (by omega) (by have := hbz.out; simp; omega) ?_; intro g5 c5 w5 ho5 hg5 hl5; obtain ⟨d0, f0, hG5, HB5, hkz5⟩ := hPu.out _ w5 g5 c5 (by first | exact below_drew (below_al (Below.refl _ _) _) | exact below_al (below_drew (Below.refl _ _)) _ | exact below_al (Below.refl _ _) _) ho5 hg5 hl5; clear ho5 hg5 hl5)
        all_goals
          generalize hWW : World.setCell w5 _ _ = W6 at hG5 HB5 hkz5 ⊢
          clear hWW d0 f0 hPu
          obtain ⟨z, hz⟩ : ∃ z, M.2[kk]'hfin.out = z := ⟨_, rfl⟩
          have hzb : 0 ≤ z ∧ z ≤ most ∧ (kk = kk → z + f x ≤ most) := by rw [← hz]; exact hMid.out.le kk hfin.out
          have hzb2 := hzb.2.2 rfl
          obtain ⟨s2, hs2⟩ : ∃ s2, z + f x = s2 := ⟨_, rfl⟩
          have v1 : IntKind.i64.wrap (z + f x) = s2 := by rw [hs2, IntWalk.i64_in _ (by omega)]
          have hmod : Hid (M.2.set kk s2 = M.2.modify kk (· + f x)) := Lib.hid (by
            rw [← hs2]
            exact set_mod M.2 kk hfin.out z (f x) (by rw [List.getElem?_eq_getElem hfin.out, hz]))
          obtain ⟨gm, cm2, rfl, p1, p2, p3, p4, pfr, pcell⟩ := own_some hG5.out.m (by have := hfin.out; omega)
          have d1 : W6.cell? ⟨gm, kk, none⟩ = some (.int .i64 z) := pcell kk _ (by unfold intV; rw [List.getElem?_map, List.getElem?_eq_getElem hfin.out, hz]; rfl)
          have f1 := pfr kk
          have d2 : W6.cell? ⟨w.heap.size, 0, none⟩ = some (.slice a n c) := cell_up HB5.out hx0.out
          have d3 : W6.cell? ⟨Z, 0, none⟩ = some (.int .i64 (x : Int)) := hkz5.out.c 0
          obtain ⟨bb, off, rfl, -, -, -, d4, -⟩ := (hrow.out W6 (below_then HBw.out HB5.out)).bun x (by rw [hn'.out]; exact hxn)
          have hfl : l[x]'(by rw [hn'.out]; exact hxn) = l[x]'(by rw [hn'.out]; exact hxn) := rfl
          have hfm : (l[x]'(by rw [hn'.out]; exact hxn)).mass = f x := by
            rw [← hf.out]
            unfold massN
            rw [List.getElem?_eq_getElem (by rw [hn'.out]; exact hxn)]
          rw [hfm] at d4
          obtain ⟨nm, hnm⟩ : ∃ nm, M.2.length = nm := ⟨_, rfl⟩
          have hkn := hfin.out
          rw [hnm] at hkn p1 ⊢
          clear hfl hfm hz hzb hzb2 hs2 pfr pcell
          go_upto_region 14 with fail
          go_still_tail 11, (by kernel_rfl)
          change wpList _ _ _ _ _ (World.drew W6)
          have hG7 := (hG5.out.up (drew_bel W6)).putM (g := gm) rfl hfin.out s2
          have HB7 := (HB5.out.trans ((drew_bel W6).mono HB5.out.size)).setCell (p := ⟨gm, kk, none⟩) p3 (.int .i64 s2)
          generalize hW7 : World.drew W6 = W7 at hG7 HB7 ⊢
          have d1' : W7.cell? ⟨gm, kk, none⟩ = some (.int .i64 z) := by rw [← hW7]; exact cell_up (drew_bel W6) d1
          have f1' : W7.frozen? ⟨gm, kk, none⟩ = false := by rw [← hW7]; exact f1
          replace hG7 := Lib.hid hG7
          clear hW7 d1 d2 d3 d4 f1 hG5 HB5 hkz5
          go_wp2_with fail
          go_roundg (n - (k + 1))
          case measure => have := hr.out; omega
          case rel => exact ⟨k + 1, _, _, _, rfl, rfl, by omega, by go_num, Lib.hid rfl, HB7, Lib.hid (by rw [hstp.out, hgs.out, ← hmod.out]; rw [hnm] at hG7; exact hG7.out)⟩
    · have hkn : k = n := by omega
      have hE : Hid (GrX w2.heap.size wr S.1 S.2 vo vm vs vs) := Lib.hid (by
        have h := hG.out
        rw [List.take_of_length_le (by have := hol.out.1; omega), hS.out] at h
        exact h)
      have hEw : Hid (Below w.heap.size w wr) := Lib.hid (below_then HBw.out HB)
      have hwk := Lib.hid HBw.out.size
      clear hG
      go_wp2_with fail
      exact bodyPost_ret (v := .tuple #[vo, .int .i64 0]) (by simp [results, Tryd.results10, go_sem]) rfl ⟨hEnd.out ord vo vm vs _ hpm.out (by rw [hS.out]; exact hE.out.weak hwk.out), hEw.out⟩
end Go.Proofs.YtjlkbmaigcgnbaaDoor
