/- SiteAccounts' walk: it returns true. -/
import Derived.Test.YtpocmijfkjjboaaSjN
set_option linter.unusedVariables false
namespace Go.Proofs.Ytpocmijfkjjboaa
open Go.ChangeShapes Go.WideShapes Go.ChangeAt Go.RowKit

set_option maxRecDepth 100000 in
set_option maxHeartbeats 4000000 in
theorem siteAccounts_core (l : List Bun) (m : ByteArray) (es : List Ent) (a1 a2 : Option Addr) (c1 c2 : Nat) (h1 : l.length ≤ c1) (h2 : es.length ≤ c2) (hc1 : c1 ≤ 9223372036854775807) (hc2 : c2 ≤ 9223372036854775807) (w : World) (r1 : RowAt encB 4 w.heap.size w a1 l) (r2 : RowAt encE 3 w.heap.size w a2 es) :
    Calls Try.prog 5 #[.slice a1 l.length c1, .string m, .slice a2 es.length c2] w fun e w' => e = .returned (.bool true) ∧ Below w.heap.size w w' := by
  have up1 : Hid (∀ u, Below w.heap.size w u → RowAt encB 4 u.heap.size u a1 l) := Lib.hid fun u hb => (r1.bel (Nat.le_refl _) hb).mono hb.size
  have up2 : Hid (∀ u, Below w.heap.size w u → RowAt encE 3 u.heap.size u a2 es) := Lib.hid fun u hb => (r2.bel (Nat.le_refl _) hb).mono hb.size
  have HL := Lib.hid fun u (hb : Below w.heap.size w u) => large_any l m es a1 a2 c1 c2 h1 h2 hc1 hc2 u (up1.out u hb) (up2.out u hb)
  obtain ⟨lg, hlg⟩ : ∃ lg, largeB l m es = lg := ⟨_, rfl⟩
  rw [hlg] at HL
  have HNs : Hid (lg = false → ∀ u, Below w.heap.size w u → Calls Try.prog 9 #[.slice a1 l.length c1, .string m] u fun e w' => NewPost l m u e w') := Lib.hid fun hl u hb => new_any l m (large_no (hlg.trans hl)).2.1 a1 c1 h1 hc1 (Lib.hid (large_no (hlg.trans hl)).1) u (Lib.hid (up1.out u hb))
  have hsm : Hid (lg = false → (newOk l m = true → (st0 l m).ok) ∧ es.length ≤ 25 ∧ ∀ x ∈ es, x.name.size ≤ 60) := Lib.hid fun hl => ⟨fun h => st0_ok l m h (large_no (hlg.trans hl)).1, (large_no (hlg.trans hl)).2.2⟩
  have htl : Hid ((st0 l m).tags.length = l.length) := Lib.hid (by simp [st0])
  obtain ⟨N, hn1⟩ : ∃ n, l.length = n := ⟨_, rfl⟩
  obtain ⟨n, hn⟩ : ∃ n, es.length = n := ⟨_, rfl⟩
  rw [hn1, hn] at HL
  rw [hn1] at HNs htl ⊢
  rw [hn] at h2 hsm ⊢
  replace hn := Lib.hid hn
  clear hlg hn1 h1 r1 r2 hc1
  go_enter Try.func5, Try.ntmps5
  go_wp2_with fail
  refine (awake_any _).mono ?_
  rintro e w1 ⟨rfl, HB⟩
  go_wp2_with fail
  refine (HL.out _ HB).mono ?_
  rintro e w2 ⟨rfl, hb2⟩
  replace HB := below_then HB hb2
  clear hb2 HL
  cases lg
  rotate_left
  · go_wp2_with fail
    go_ret
    exact ⟨rfl, HB⟩
  replace HNs := Lib.hid (HNs.out rfl)
  replace hsm := Lib.hid (hsm.out rfl)
  have hn25 : n ≤ 25 := hsm.out.2.1
  go_wp2_with fail
  refine (HNs.out _ HB).mono ?_
  rintro e w3 ⟨hbad, hgood, hb3⟩
  have HB3 := below_then HB hb3
  clear HNs
  obtain ⟨nk, hnk⟩ : ∃ nk, newOk l m = nk := ⟨_, rfl⟩
  rw [hnk] at hbad hgood hsm
  clear hnk
  cases nk
  · have hb0 := hbad rfl
    subst hb0
    clear hgood hbad hsm
    go_wp2_with fail
    go_ret
    exact ⟨rfl, HB3⟩
  · obtain ⟨g, p, rfl, hs1, hfp⟩ := hgood rfl
    clear hgood hbad
    have hok0 := Lib.hid (hsm.out.1 rfl)
    replace hsm := Lib.hid hsm.out.2
    have hO3 : Hid (∃ X, One w.heap.size X w3 g (st0 l m)) := Lib.hid ⟨w3.heap.size, p, hs1, fun b hb => ⟨Nat.le_trans HB.size (hfp b hb), by have := hs1.lt hb; omega⟩⟩
    have hp0 : (st0 l m).poured = false := rfl
    obtain ⟨s0, hs0⟩ : ∃ s0, st0 l m = s0 := ⟨_, rfl⟩
    rw [hs0] at hO3 hok0 htl hp0
    replace hp0 := Lib.hid hp0
    clear hs0 hs1 hfp hb3 HB
    go_wp2_with fail
    go_loopg [49, 9] n (fun g1 i b wr => ∃ (k : Nat) (s : St), k ≤ n ∧ i = .int .i64 (k : Int) ∧ b = .bool s.poured ∧ Hid (g1 = n - k) ∧ Hid (s.ok ∧ s.tags.length = N) ∧ Hid (∃ X, One w.heap.size X wr g s) ∧ Below w.heap.size w wr)
    case atStart => exact ⟨0, s0, Nat.zero_le _, rfl, by rw [hp0.out], Lib.hid rfl, Lib.hid ⟨hok0.out, htl.out⟩, hO3, HB3⟩
    case round =>
      clear hO3 HB3 hok0 htl hp0
      obtain ⟨k, s, hk, rfl, rfl, hr, hok, hO, HB⟩ := hrel
      by_cases hlt : k < n
      · have hkl : Hid (k < es.length) := Lib.hid (by rw [hn.out]; exact hlt)
        obtain ⟨b, off, rfl, e0, e1, e2, hb⟩ := (up2.out wr HB).ent k hkl.out
        have hxz := Lib.hid (hsm.out.2 _ (List.getElem_mem hkl.out))
        obtain ⟨x, hx⟩ : ∃ x, es[k]'hkl.out = x := ⟨_, rfl⟩
        rw [hx] at e0 e1 e2 hxz
        clear hx hb
        obtain ⟨xd, xk, xn⟩ := x
        dsimp only at e0 e1 e2 hxz
        have HA : Hid (∀ u X, One w.heap.size X u g s → _) := Lib.hid fun u X hd => one_account (B := w.heap.size) (X := X) (u := u) (g := g) hok.out.1 hd
        have HM : Hid (∀ u X, One w.heap.size X u g s → _) := Lib.hid fun u X hd => one_missing (B := w.heap.size) (X := X) (u := u) (g := g) hok.out.1 hd
        have HO : Hid (∀ u X, One w.heap.size X u g s → _) := Lib.hid fun u X hd => one_open (B := w.heap.size) (X := X) (u := u) (g := g) hok.out.1 hd
        have HE : Hid (∀ u X, One w.heap.size X u g s → _) := Lib.hid fun u X hd => one_entries (B := w.heap.size) (X := X) (u := u) (g := g) hok.out.1 hd
        have HR : Hid (∀ u X, One w.heap.size X u g s → _) := Lib.hid fun u X hd => one_ready (B := w.heap.size) (X := X) (u := u) (g := g) hok.out.1 hd
        have hrd := ready_is s
        have hmc := miss_count s.tags s.at_ hok.out.1.len hok.out.1.le
        have hc3 := count3 s.at_ hok.out.1.le
        rw [hok.out.1.len, hok.out.2] at hc3
        have hN1 : N ≤ 1000 := by rw [← hok.out.2]; exact hok.out.1.tagsN
        have hoo1 : s.open_.length ≤ 1000 := by have := hok.out.1.openN; have := hok.out.1.keptN; omega
        obtain ⟨M, hM⟩ : ∃ M, missS s.tags s.at_ = M := ⟨_, rfl⟩
        rw [hM] at HM hrd hmc
        obtain ⟨mm, hmm⟩ : ∃ mm, M.length = mm := ⟨_, rfl⟩
        obtain ⟨oo, hoo⟩ : ∃ oo, s.open_.length = oo := ⟨_, rfl⟩
        obtain ⟨q0, hq0⟩ : ∃ q, s.at_.count 0 = q := ⟨_, rfl⟩
        obtain ⟨q1, hq1⟩ : ∃ q, s.at_.count 1 = q := ⟨_, rfl⟩
        obtain ⟨q2, hq2⟩ : ∃ q, s.at_.count 2 = q := ⟨_, rfl⟩
        obtain ⟨rd, hrd'⟩ : ∃ rd, readyS s = rd := ⟨_, rfl⟩
        rw [hq0, hq1, hq2] at HA hc3
        rw [hq0, hq1, hmm] at hmc
        rw [hmm] at HM
        rw [hoo] at HO hoo1
        rw [hmm, hoo, hrd'] at hrd
        rw [hrd'] at HR
        replace hrd := Lib.hid hrd.symm
        replace hrd' := Lib.hid hrd'
        replace hmm := Lib.hid hmm
        replace hoo := Lib.hid hoo
        have w1 : IntKind.i64.wrap ((q0 : Int) + (q1 : Int)) = (q0 : Int) + q1 := IntWalk.i64_in _ (by omega)
        have w2 : IntKind.i64.wrap ((q0 : Int) + (q1 : Int) + (q2 : Int)) = (q0 : Int) + q1 + q2 := IntWalk.i64_in _ (by omega)
        have n1 : ((q0 : Int) + q1 + q2 != (N : Int)) = false := by simp; omega
        have n2 : ((mm : Int) != (q0 : Int) + q1) = false := by simp; omega
        have hM6 : Hid (M.length ≤ 1000000) := Lib.hid (by rw [hmm.out]; omega)
        have hO6 : Hid (s.open_.length ≤ 1000000) := Lib.hid (by rw [hoo.out]; omega)
        have hK6 : Hid (s.kept.length ≤ 1000000) := Lib.hid (by have := hok.out.1.keptN; omega)
        clear hM hq0 hq1 hq2 hmc hc3
        go_upto_region 12 with fail
        generalize hWW : World.alloc _ _ = W1
        have kx : At W1 wr.heap.size 35 #[.int .i64 xd, .int .i64 xk, .string xn] := by rw [← hWW]; exact At.new' rfl
        have hbW : Below wr.heap.size wr W1 := by rw [← hWW]; exact below_al (Below.refl _ _) _
        have hO1 : One w.heap.size wr.heap.size W1 g s := by
          obtain ⟨Y, hY⟩ := hO.out
          exact (hY.other wr.heap.size (Nat.le_refl _)).up hbW
        replace HB := below_then HB hbW
        have hW0 : Hid (w.heap.size ≤ W1.heap.size) := Lib.hid HB.size
        clear hWW hbW e0 e1 e2 hO
        have HW : Below W1.heap.size W1 W1 := Below.refl _ _
        obtain ⟨p, hs1, hfp⟩ := id hO1
        replace hs1 := Lib.hid hs1
        replace hfp := Lib.hid hfp
        have hwr := Lib.hid kx.lt
        go_wp2_with fail
        refine (HA.out _ _ hO1).mono ?_
        rintro e wn ⟨rfl, hb⟩
        replace hO1 := hO1.up hb
        replace kx := At.bel kx hb
        replace HB := below_then HB hb
        replace HW := below_then HW hb
        clear hb
        go_wp2_with fail
        refine (HM.out _ _ hO1).mono ?_
        rintro e wn ⟨⟨am, cm, rfl, hm⟩, hb⟩
        replace hm := own_weak hm HW.size
        replace hO1 := hO1.up hb
        replace kx := At.bel kx hb
        replace HB := below_then HB hb
        replace HW := below_then HW hb
        clear hb
        go_wp2_with fail
        refine (HO.out _ _ hO1).mono ?_
        rintro e wn ⟨⟨aq, cq, rfl, hq⟩, hb⟩
        replace hq := own_weak hq HW.size
        replace hO1 := hO1.up hb
        replace kx := At.bel kx hb
        replace hm := World.ownsRow_up hm hb
        replace HB := below_then HB hb
        replace HW := below_then HW hb
        clear hb
        go_wp2_with fail
        refine (HE.out _ _ hO1).mono ?_
        rintro e wn ⟨⟨ae, ce, rfl, he⟩, hb⟩
        replace he := own_weak he HW.size
        replace hO1 := hO1.up hb
        replace kx := At.bel kx hb
        replace hm := World.ownsRow_up hm hb
        replace hq := World.ownsRow_up hq hb
        replace HB := below_then HB hb
        replace HW := below_then HW hb
        clear hb
        go_wp2_with fail
        refine (HR.out _ _ hO1).mono ?_
        rintro e wn ⟨rfl, hb⟩
        replace hO1 := hO1.up hb
        replace kx := At.bel kx hb
        replace hm := World.ownsRow_up hm hb
        replace hq := World.ownsRow_up hq hb
        replace he := World.ownsRow_up he hb
        replace HB := below_then HB hb
        replace HW := below_then HW hb
        clear hb
        go_upto_region 14 with fail
        go_cut [106] (fun v wc => v = .bool false ∧ wn = wc)
        case first =>
          clear hm hq he hO1 kx HA HM HO HE HR HW hs1 hfp
          by_cases m0 : mm = 0
          · by_cases o0 : oo = 0
            · have hrd1 : rd = true := by rw [← hrd.out, decide_eq_true m0, decide_eq_true o0]; rfl
              have m1 : ((mm : Int) == 0) = true := by simp [m0]
              have o1 : ((oo : Int) == 0) = true := by simp [o0]
              subst hrd1
              clear m0 o0
              go_wp2_with fail
              go_meet
              exact ⟨rfl, rfl⟩
            · have hrd1 : rd = false := by rw [← hrd.out, decide_eq_false o0]; simp
              have m1 : ((mm : Int) == 0) = true := by simp [m0]
              have o1 : ((oo : Int) == 0) = false := by simp; omega
              subst hrd1
              clear m0 o0
              go_wp2_with fail
              go_meet
              exact ⟨rfl, rfl⟩
          · have hrd1 : rd = false := by rw [← hrd.out, decide_eq_false m0]; simp
            have m1 : ((mm : Int) == 0) = false := by simp; omega
            subst hrd1
            clear m0
            go_wp2_with fail
            go_meet
            exact ⟨rfl, rfl⟩
        case rest =>
          obtain ⟨rfl, rfl⟩ := hcut
          have hflt : Hid (∀ b, some b ∈ p.fp g → b < W1.heap.size) := Lib.hid fun b hb => hs1.out.lt hb
          have hs2 := Lib.hid (hs1.out.bel HW)
          obtain ⟨x0, x1, x2⟩ := kx.three
          go_wp2_with fail
          refine (do_any s hok.out.1 xd xk xn hxz.out g p _ hs2.out).mono ?_
          rintro e wd ⟨rfl, p', t1, t2, t3⟩
          have hm2 := own_frm hm t2 hflt.out
          have hq2 := own_frm hq t2 hflt.out
          have he2 := own_frm he t2 hflt.out
          have kx2 : At wd wr.heap.size 35 #[.int .i64 xd, .int .i64 xk, .string xn] := (t2.block _ kx.lt (fun h => (hfp.out _ h).2 rfl)).trans kx
          have HBd : Below w.heap.size w wd := HB.trans (t2.below HB.size fun x hx => (hfp.out x hx).1)
          have hO2 : One w.heap.size wd.heap.size wd g (doS s ⟨xd, xk, xn⟩).2 := ⟨p', t1, fun b hb => ⟨by
            rcases t3 b hb with q | q
            · exact (hfp.out b q).1
            · exact Nat.le_trans HB.size q, by have := t1.lt hb; omega⟩⟩
          have hGr : Hid (∀ u u' : World, Below wd.heap.size wd u → u.grownBy u' (Value.slice ae s.kept.length ce).ownBlock → One w.heap.size wd.heap.size u' g (doS s ⟨xd, xk, xn⟩).2) := Lib.hid fun u u' hu hg => ⟨p', (t1.bel hu).keep fun b e => hg.block b ((t1.bel hu).lt e) (fun h => by
            have q1 := own_lt he h.symm
            rcases t3 b e with q | q
            · have := hflt.out b q; omega
            · omega), fun b hb => ⟨by
            rcases t3 b hb with q | q
            · exact (hfp.out b q).1
            · exact Nat.le_trans HB.size q, by have := t1.lt hb; omega⟩⟩
          have hW1 : W1.heap.size ≤ wd.heap.size := Nat.le_trans HW.size t2.size
          clear hm hq he hO1 kx x0 x1 x2 HB HW hs1 hs2 hfp hflt t1 t2 t3
          obtain ⟨r, hr9⟩ : ∃ r, (doS s ⟨xd, xk, xn⟩).1 = r := ⟨_, rfl⟩
          rw [hr9]
          by_cases r0 : r = 0
          · subst r0
            obtain ⟨hpf, hp5, hp6⟩ := doS_pour hr9
            have hkp := doS_kept hr9
            have hok2 := Lib.hid (doS_ok s hok.out.1 ⟨xd, xk, xn⟩ hxz.out)
            have htg := Lib.hid ((congrArg List.length (doS_tags s ⟨xd, xk, xn⟩)).trans hok.out.2)
            obtain ⟨s2, hs29⟩ : ∃ s2, (doS s ⟨xd, xk, xn⟩).2 = s2 := ⟨_, rfl⟩
            rw [hs29] at hO2 hGr hp5 hkp hok2 htg
            obtain ⟨i0, hi, hz0, hz1, hz2⟩ := info_parts infoEnt
            have hk2 := Lib.hid hkp
            have hk7 : Hid (s.kept.length ≤ 1000) := Lib.hid hok.out.1.keptN
            have hK7 : Hid (s2.kept.length ≤ 1000000) := Lib.hid (by have := hok2.out.keptN; omega)
            have hea : Hid (∀ b, (Value.slice ae s.kept.length ce).ownBlock = some b → b < wd.heap.size) := Lib.hid fun b hb => (own_lt he2 hb).1
            have hxe : Hid ((Value.slice ae s.kept.length ce).ownBlock ≠ some wr.heap.size) := Lib.hid fun h => by have := (own_lt he2 h).2; have := hwr.out; omega
            have heb : Hid (∀ b, (Value.slice ae s.kept.length ce).ownBlock = some b → w.heap.size ≤ b) := Lib.hid fun b hb => Nat.le_trans hW0.out (own_lt he2 hb).2
            have LE : Hid (∀ W : World, Below wd.heap.size wd W → W1.heap.size ≤ W.heap.size) := Lib.hid fun W hW => Nat.le_trans hW1 hW.size
            obtain ⟨x0, x1, x2⟩ := kx2.three
            clear hkp hs29 hr9 hm2 hq2 hW1 HA HM HO HE HR hmm hoo w1 w2 n1 n2 hM6 hO6 hrd hN1 hoo1
            by_cases k5 : xk = 5
            · have hrd5 : rd = true := by rw [← hrd'.out]; exact hp6 k5
              have b5 : (xk == 5) = true := by simp [k5]
              subst hrd5
              have hp7 : Hid (s2.poured = true) := Lib.hid (by rw [hp5, decide_eq_true k5])
              clear hp5 hp6 k5
              go_upto_region 18 with fail
              go_region_held3 (fun W => Below w.heap.size w W ∧ At W wr.heap.size 35 #[.int .i64 xd, .int .i64 xk, .string xn] ∧ W.cell? ⟨wr.heap.size, 0, none⟩ = some (.int .i64 xd) ∧ W.cell? ⟨wr.heap.size, 1, none⟩ = some (.int .i64 xk) ∧ W.cell? ⟨wr.heap.size, 2, none⟩ = some (.string xn)) ((first | ((try go_split_ands); refine ⟨?_, ?_, ?_, ?_, ?_⟩; (focus ((repeat (first | with_reducible assumption | with_reducible exact Below.refl _ _ | with_reducible refine below_al ?_ _ | with_reducible refine below_drew ?_ | with_reducible refine below_drewN ?_ _ | with_reducible refine below_then ?_ hb6)); done)); (focus ((repeat (first | with_reducible assumption | with_reducible apply At.drw | with_reducible refine At.al ?_ _ | with_reducible refine At.bel ?_ hb6)); done)); (focus (first | (with_reducible refine At.c0' (t := 35) (x := .int .i64 xd) (y := .int .i64 xk) (z := .string xn) ?_; (repeat (first | with_reducible assumption | with_reducible apply At.drw | with_reducible refine At.al ?_ _ | with_reducible refine At.bel ?_ hb6)); done) | (with_reducible refine At.c1' (t := 35) (x := .int .i64 xd) (y := .int .i64 xk) (z := .string xn) ?_; (repeat (first | with_reducible assumption | with_reducible apply At.drw | with_reducible refine At.al ?_ _ | with_reducible refine At.bel ?_ hb6)); done) | (with_reducible refine At.c2' (t := 35) (x := .int .i64 xd) (y := .int .i64 xk) (z := .string xn) ?_; (repeat (first | with_reducible assumption | with_reducible apply At.drw | with_reducible refine At.al ?_ _ | with_reducible refine At.bel ?_ hb6)); done) )); (focus (first | (with_reducible refine At.c0' (t := 35) (x := .int .i64 xd) (y := .int .i64 xk) (z := .string xn) ?_; (repeat (first | with_reducible assumption | with_reducible apply At.drw | with_reducible refine At.al ?_ _ | with_reducible refine At.bel ?_ hb6)); done) | (with_reducible refine At.c1' (t := 35) (x := .int .i64 xd) (y := .int .i64 xk) (z := .string xn) ?_; (repeat (first | with_reducible assumption | with_reducible apply At.drw | with_reducible refine At.al ?_ _ | with_reducible refine At.bel ?_ hb6)); done) | (with_reducible refine At.c2' (t := 35) (x := .int .i64 xd) (y := .int .i64 xk) (z := .string xn) ?_; (repeat (first | with_reducible assumption | with_reducible apply At.drw | with_reducible refine At.al ?_ _ | with_reducible refine At.bel ?_ hb6)); done) )); (focus (first | (with_reducible refine At.c0' (t := 35) (x := .int .i64 xd) (y := .int .i64 xk) (z := .string xn) ?_; (repeat (first | with_reducible assumption | with_reducible apply At.drw | with_reducible refine At.al ?_ _ | with_reducible refine At.bel ?_ hb6)); done) | (with_reducible refine At.c1' (t := 35) (x := .int .i64 xd) (y := .int .i64 xk) (z := .string xn) ?_; (repeat (first | with_reducible assumption | with_reducible apply At.drw | with_reducible refine At.al ?_ _ | with_reducible refine At.bel ?_ hb6)); done) | (with_reducible refine At.c2' (t := 35) (x := .int .i64 xd) (y := .int .i64 xk) (z := .string xn) ?_; (repeat (first | with_reducible assumption | with_reducible apply At.drw | with_reducible refine At.al ?_ _ | with_reducible refine At.bel ?_ hb6)); done) ))) | go_keep)) (first | (go_at_call 18; refine (one_entries (B := w.heap.size) (X := wd.heap.size) (s := s2) hok2.out ?_).mono ?_; (focus ((repeat (first | with_reducible assumption | with_reducible refine One.up (drew_bel _) ?_ | with_reducible refine One.up (below_al (Below.refl _ _) _) ?_)); done)); rintro e w6 ⟨⟨az, cz, rfl, hex⟩, hb6⟩; have hb7 : Below wd.heap.size wd w6 := below_then (by repeat (first | with_reducible assumption | with_reducible exact Below.refl _ _ | with_reducible refine below_al ?_ _ | with_reducible refine below_drew ?_ | with_reducible refine below_drewN ?_ _)) hb6; have he6 := World.ownsRow_up he2 hb7; have hex6 := own_weak (base' := wd.heap.size) hex (Below.size (B := wd.heap.size) (w := wd) (by repeat (first | with_reducible assumption | with_reducible exact Below.refl _ _ | with_reducible refine below_al ?_ _ | with_reducible refine below_drew ?_ | with_reducible refine below_drewN ?_ _))); (try have kb : At w6 wd.heap.size 35 #[.int .i64 xd, .int .i64 xk, .string xn] := At.bel (by first | exact At.new' rfl | exact At.drw (At.new' rfl)) hb6)) | (go_at_call 18; refine (one_entries (B := w.heap.size) (X := wd.heap.size) (s := s2) hok2.out hO7).mono ?_; rintro e w6 ⟨⟨az, cz, rfl, hex⟩, hb6⟩; have hE1 : IsE s2.kept (.slice az s2.kept.length cz) w6 := row_isE hex; replace hE2 := IsE.up hb6 hE2; replace hO7 := hO7.up hb6; replace hB7 := below_then hB7 hb6; replace kx7 := At.bel kx7 hb6) | (refine step_append_w _ rfl (.tmp 125) (.tmp 127) 23 rfl W1.heap.size 35 i0 (.agg #[.int .i64 0, .int .i64 0, .string ⟨#[]⟩]) 3 32 Try.underlying23 hi hz0 hz1 hz2 rfl (by decide) (.slice ae s.kept.length ce) s.kept.length (s.kept.flatMap encE) (by first | rfl | (simp [Act.eval]; done)) (he6.alloc _) ⟨w6.heap.size, 0, none⟩ 1 1 [.int .i64 xd, .int .i64 xk, .string xn] (by first | rfl | (simp [Act.eval]; done)) rfl (three_new (At.new _ _ _)) (by intro u hu; simp at hu; rcases hu with rfl | rfl | rfl <;> rfl) (by have := hk7.out; unfold maxLen; omega) (by have := hk7.out; omega) (LE.out _ (by repeat (first | with_reducible assumption | with_reducible exact Below.refl _ _ | with_reducible refine below_al ?_ _ | with_reducible refine below_drew ?_ | with_reducible refine below_drewN ?_ _))) ?_; intro a5 c5 w7 ho7 hg7 hloc7; have hE2 := isE_push ho7 hk2.out; have hE1 : IsE s2.kept (.slice az s2.kept.length cz) w7 := row_isE (own_grown (World.ownsRow_up hex6 (below_al (Below.refl _ _) _)) hg7 (fun b hb => hea.out b hb)); have kx7 : At w7 wr.heap.size 35 #[.int .i64 xd, .int .i64 xk, .string xn] := at_grown (by go_split_ands; repeat (first | with_reducible assumption | with_reducible apply At.drw | with_reducible refine At.al ?_ _ | with_reducible refine At.bel ?_ hb6)) hg7 hxe.out; have hB7 : Below w.heap.size w w7 := below_grown (by go_split_ands; repeat (first | with_reducible assumption | with_reducible exact Below.refl _ _ | with_reducible refine below_al ?_ _ | with_reducible refine below_drew ?_ | with_reducible refine below_drewN ?_ _ | with_reducible refine below_then ?_ hb6)) hg7 heb.out; have hO7 : One w.heap.size wd.heap.size w7 g s2 := hGr.out _ _ (by repeat (first | with_reducible assumption | with_reducible exact Below.refl _ _ | with_reducible refine below_al ?_ _ | with_reducible refine below_drew ?_ | with_reducible refine below_drewN ?_ _)) hg7; clear ho7 hg7 hloc7) | (refine step_append_w _ rfl (.tmp 125) (.tmp 127) 23 rfl W1.heap.size 35 i0 (.agg #[.int .i64 0, .int .i64 0, .string ⟨#[]⟩]) 3 32 Try.underlying23 hi hz0 hz1 hz2 rfl (by decide) (.slice ae s.kept.length ce) s.kept.length (s.kept.flatMap encE) (by first | rfl | (simp [Act.eval]; done)) he6 ⟨wd.heap.size, 0, none⟩ 1 1 [.int .i64 xd, .int .i64 xk, .string xn] (by first | rfl | (simp [Act.eval]; done)) rfl (three_new kb) (by intro u hu; simp at hu; rcases hu with rfl | rfl | rfl <;> rfl) (by have := hk7.out; unfold maxLen; omega) (by have := hk7.out; omega) (LE.out _ (by repeat (first | with_reducible assumption | with_reducible exact Below.refl _ _ | with_reducible refine below_al ?_ _ | with_reducible refine below_drew ?_ | with_reducible refine below_drewN ?_ _))) ?_; intro a5 c5 w7 ho7 hg7 hloc7; have hE2 := isE_push ho7 hk2.out; have hE1 : IsE s2.kept (.slice az s2.kept.length cz) w7 := row_isE (own_grown hex6 hg7 (fun b hb => hea.out b hb)); have kx7 : At w7 wr.heap.size 35 #[.int .i64 xd, .int .i64 xk, .string xn] := at_grown (by go_split_ands; repeat (first | with_reducible assumption | with_reducible apply At.drw | with_reducible refine At.al ?_ _ | with_reducible refine At.bel ?_ hb6)) hg7 hxe.out; have hB7 : Below w.heap.size w w7 := below_grown (by go_split_ands; repeat (first | with_reducible assumption | with_reducible exact Below.refl _ _ | with_reducible refine below_al ?_ _ | with_reducible refine below_drew ?_ | with_reducible refine below_drewN ?_ _ | with_reducible refine below_then ?_ hb6)) hg7 heb.out; have hO7 : One w.heap.size wd.heap.size w7 g s2 := hGr.out _ _ (by repeat (first | with_reducible assumption | with_reducible exact Below.refl _ _ | with_reducible refine below_al ?_ _ | with_reducible refine below_drew ?_ | with_reducible refine below_drewN ?_ _)) hg7; clear ho7 hg7 hloc7) | (refine step_append_w _ rfl (.tmp 125) (.tmp 127) 23 rfl W1.heap.size 35 i0 (.agg #[.int .i64 0, .int .i64 0, .string ⟨#[]⟩]) 3 32 Try.underlying23 hi hz0 hz1 hz2 rfl (by decide) (.slice ae s.kept.length ce) s.kept.length (s.kept.flatMap encE) (by first | rfl | (simp [Act.eval]; done)) (World.ownsRow_up he2 (by repeat (first | with_reducible assumption | with_reducible exact Below.refl _ _ | with_reducible refine below_al ?_ _ | with_reducible refine below_drew ?_ | with_reducible refine below_drewN ?_ _))) ⟨wd.heap.size, 0, none⟩ 1 1 [.int .i64 xd, .int .i64 xk, .string xn] (by first | rfl | (simp [Act.eval]; done)) rfl (three_new (by first | exact At.new _ _ _ | exact At.drw (At.new _ _ _) | exact At.new' rfl)) (by intro u hu; simp at hu; rcases hu with rfl | rfl | rfl <;> rfl) (by have := hk7.out; unfold maxLen; omega) (by have := hk7.out; omega) (LE.out _ (by repeat (first | with_reducible assumption | with_reducible exact Below.refl _ _ | with_reducible refine below_al ?_ _ | with_reducible refine below_drew ?_ | with_reducible refine below_drewN ?_ _))) ?_; intro a5 c5 w7 ho7 hg7 hloc7; have hE2 := isE_push ho7 hk2.out; have kx7 : At w7 wr.heap.size 35 #[.int .i64 xd, .int .i64 xk, .string xn] := at_grown (by go_split_ands; repeat (first | with_reducible assumption | with_reducible apply At.drw | with_reducible refine At.al ?_ _ | with_reducible refine At.bel ?_ hb6)) hg7 hxe.out; have hB7 : Below w.heap.size w w7 := below_grown (by go_split_ands; repeat (first | with_reducible assumption | with_reducible exact Below.refl _ _ | with_reducible refine below_al ?_ _ | with_reducible refine below_drew ?_ | with_reducible refine below_drewN ?_ _ | with_reducible refine below_then ?_ hb6)) hg7 heb.out; have hO7 : One w.heap.size wd.heap.size w7 g s2 := hGr.out _ _ (by repeat (first | with_reducible assumption | with_reducible exact Below.refl _ _ | with_reducible refine below_al ?_ _ | with_reducible refine below_drew ?_ | with_reducible refine below_drewN ?_ _)) hg7; clear ho7 hg7 hloc7) | (go_at_call 19; refine (eqvE_any s2.kept _ _ _ hK7.out hE1 hE2).mono ?_; rintro e w8 ⟨rfl, hb6⟩; have hO8 := hO7.up hb6; have hB8 := below_then hB7 hb6; have kx8 := At.bel kx7 hb6))
              all_goals
                obtain ⟨x0, x1, x2⟩ := kx8.three
                go_wp2_with fail
                go_roundg (n - (k + 1))
                case measure => have := hr.out; omega
                case rel => exact ⟨k + 1, s2, by omega, by go_num, by rw [hp7.out], Lib.hid rfl, Lib.hid ⟨hok2.out, htg.out⟩, Lib.hid ⟨wd.heap.size, hO8⟩, hB8⟩
            · have b5 : (xk == 5) = false := by simp [k5]
              have hp7 : Hid (s2.poured = false) := Lib.hid (by rw [hp5, decide_eq_false k5])
              clear hp5 hp6 k5
              go_upto_region 18 with fail
              refine wp_region_noPanic ?_
              refine wp_region_held_drew (S := (fun W => Below w.heap.size w W ∧ At W wr.heap.size 35 #[.int .i64 xd, .int .i64 xk, .string xn] ∧ W.cell? ⟨wr.heap.size, 0, none⟩ = some (.int .i64 xd) ∧ W.cell? ⟨wr.heap.size, 1, none⟩ = some (.int .i64 xk) ∧ W.cell? ⟨wr.heap.size, 2, none⟩ = some (.string xn))) (by kernel_rfl) ?_ (fun hHeld => ?_)
              · (try dsimp only); (first | ((try go_split_ands); refine ⟨?_, ?_, ?_, ?_, ?_⟩; (focus ((repeat (first | with_reducible assumption | with_reducible exact Below.refl _ _ | with_reducible refine below_al ?_ _ | with_reducible refine below_drew ?_ | with_reducible refine below_drewN ?_ _ | with_reducible refine below_then ?_ hb6)); done)); (focus ((repeat (first | with_reducible assumption | with_reducible apply At.drw | with_reducible refine At.al ?_ _ | with_reducible refine At.bel ?_ hb6)); done)); (focus (first | (with_reducible refine At.c0' (t := 35) (x := .int .i64 xd) (y := .int .i64 xk) (z := .string xn) ?_; (repeat (first | with_reducible assumption | with_reducible apply At.drw | with_reducible refine At.al ?_ _ | with_reducible refine At.bel ?_ hb6)); done) | (with_reducible refine At.c1' (t := 35) (x := .int .i64 xd) (y := .int .i64 xk) (z := .string xn) ?_; (repeat (first | with_reducible assumption | with_reducible apply At.drw | with_reducible refine At.al ?_ _ | with_reducible refine At.bel ?_ hb6)); done) | (with_reducible refine At.c2' (t := 35) (x := .int .i64 xd) (y := .int .i64 xk) (z := .string xn) ?_; (repeat (first | with_reducible assumption | with_reducible apply At.drw | with_reducible refine At.al ?_ _ | with_reducible refine At.bel ?_ hb6)); done) )); (focus (first | (with_reducible refine At.c0' (t := 35) (x := .int .i64 xd) (y := .int .i64 xk) (z := .string xn) ?_; (repeat (first | with_reducible assumption | with_reducible apply At.drw | with_reducible refine At.al ?_ _ | with_reducible refine At.bel ?_ hb6)); done) | (with_reducible refine At.c1' (t := 35) (x := .int .i64 xd) (y := .int .i64 xk) (z := .string xn) ?_; (repeat (first | with_reducible assumption | with_reducible apply At.drw | with_reducible refine At.al ?_ _ | with_reducible refine At.bel ?_ hb6)); done) | (with_reducible refine At.c2' (t := 35) (x := .int .i64 xd) (y := .int .i64 xk) (z := .string xn) ?_; (repeat (first | with_reducible assumption | with_reducible apply At.drw | with_reducible refine At.al ?_ _ | with_reducible refine At.bel ?_ hb6)); done) )); (focus (first | (with_reducible refine At.c0' (t := 35) (x := .int .i64 xd) (y := .int .i64 xk) (z := .string xn) ?_; (repeat (first | with_reducible assumption | with_reducible apply At.drw | with_reducible refine At.al ?_ _ | with_reducible refine At.bel ?_ hb6)); done) | (with_reducible refine At.c1' (t := 35) (x := .int .i64 xd) (y := .int .i64 xk) (z := .string xn) ?_; (repeat (first | with_reducible assumption | with_reducible apply At.drw | with_reducible refine At.al ?_ _ | with_reducible refine At.bel ?_ hb6)); done) | (with_reducible refine At.c2' (t := 35) (x := .int .i64 xd) (y := .int .i64 xk) (z := .string xn) ?_; (repeat (first | with_reducible assumption | with_reducible apply At.drw | with_reducible refine At.al ?_ _ | with_reducible refine At.bel ?_ hb6)); done) ))) | go_keep)
              refine wpAnyH_take (i := 0) (v := ?_) (by simp only [List.getElem?_toArray, List.getElem?_cons_zero]; rfl) (by kernel_rfl) (by kernel_rfl) (by kernel_rfl) (fun _ _ _ h => h) (Or.inl ⟨by rfl, ?_⟩) (by assumption) ?_
              rotate_left
              focus (intro w hSw; (try dsimp only at hSw); go_simp; first | done | with_reducible rfl)
              (try simp only [Act.put, List.setIfInBounds_toArray, List.set_cons_zero, List.set_cons_succ])
              refine wpAnyH_take (i := 1) (v := ?_) (by simp only [List.getElem?_toArray, List.getElem?_cons_succ, List.getElem?_cons_zero]; rfl) (by kernel_rfl) (by kernel_rfl) (by kernel_rfl) (fun _ _ _ h => h) (Or.inl ⟨by rfl, ?_⟩) (by assumption) ?_
              rotate_left
              focus (intro w hSw; (try dsimp only at hSw); go_simp; first | done | with_reducible rfl)
              (try simp only [Act.put, List.setIfInBounds_toArray, List.set_cons_zero, List.set_cons_succ])
              refine wpAnyH_take (i := 2) (v := ?_) (by simp only [List.getElem?_toArray, List.getElem?_cons_succ, List.getElem?_cons_zero]; rfl) (by kernel_rfl) (by kernel_rfl) (by kernel_rfl) (fun _ _ _ h => h) (Or.inl ⟨by rfl, ?_⟩) (by assumption) ?_
              rotate_left
              focus (intro w hSw; (try dsimp only at hSw); go_simp; first | done | with_reducible rfl)
              (try simp only [Act.put, List.setIfInBounds_toArray, List.set_cons_zero, List.set_cons_succ])
              refine wpAnyH_take (i := 3) (v := ?_) (by simp only [List.getElem?_toArray, List.getElem?_cons_succ, List.getElem?_cons_zero]; rfl) (by kernel_rfl) (by kernel_rfl) (by kernel_rfl) (fun _ _ _ h => h) (Or.inl ⟨by rfl, ?_⟩) (by assumption) ?_
              rotate_left
              focus (intro w hSw; (try dsimp only at hSw); go_simp; first | done | with_reducible rfl)
              (try simp only [Act.put, List.setIfInBounds_toArray, List.set_cons_zero, List.set_cons_succ])
              refine wpAnyH_take (i := 4) (v := ?_) (by simp only [List.getElem?_toArray, List.getElem?_cons_succ, List.getElem?_cons_zero]; rfl) (by kernel_rfl) (by kernel_rfl) (by kernel_rfl) (fun _ _ _ h => h) (Or.inl ⟨by rfl, ?_⟩) (by assumption) ?_
              rotate_left
              focus (intro w hSw; (try dsimp only at hSw); go_simp; first | done | with_reducible rfl)
              (try simp only [Act.put, List.setIfInBounds_toArray, List.set_cons_zero, List.set_cons_succ])
              refine wpAnyH_take (i := 5) (v := ?_) (by simp only [List.getElem?_toArray, List.getElem?_cons_succ, List.getElem?_cons_zero]; rfl) (by kernel_rfl) (by kernel_rfl) (by kernel_rfl) (fun _ _ _ h => h) (Or.inl ⟨by rfl, ?_⟩) (by assumption) ?_
              rotate_left
              focus (intro w hSw; (try dsimp only at hSw); go_simp; first | done | with_reducible rfl)
              (try simp only [Act.put, List.setIfInBounds_toArray, List.set_cons_zero, List.set_cons_succ])
              refine wpAnyH_take (i := 6) (v := undef) (by simp only [List.getElem?_toArray, List.getElem?_cons_succ, List.getElem?_cons_zero]; rfl) (by kernel_rfl) (by kernel_rfl) (by kernel_rfl) (fun _ _ _ h => h) (Or.inr ⟨by rfl, rfl⟩) (by assumption) ?_
              (try simp only [Act.put, List.setIfInBounds_toArray, List.set_cons_zero, List.set_cons_succ])
              refine wpAnyH_take (i := 7) (v := undef) (by simp only [List.getElem?_toArray, List.getElem?_cons_succ, List.getElem?_cons_zero]; rfl) (by kernel_rfl) (by kernel_rfl) (by kernel_rfl) (fun _ _ _ h => h) (Or.inr ⟨by rfl, rfl⟩) (by assumption) ?_
              (try simp only [Act.put, List.setIfInBounds_toArray, List.set_cons_zero, List.set_cons_succ])
              refine wpAnyH_take (i := 8) (v := ?_) (by simp only [List.getElem?_toArray, List.getElem?_cons_succ, List.getElem?_cons_zero]; rfl) (by kernel_rfl) (by kernel_rfl) (by kernel_rfl) (fun _ _ _ h => h) (Or.inl ⟨by rfl, ?_⟩) (by assumption) ?_
              rotate_left
              focus (intro w hSw; (try dsimp only at hSw); go_simp; first | done | with_reducible rfl)
              (try simp only [Act.put, List.setIfInBounds_toArray, List.set_cons_zero, List.set_cons_succ])
              refine wpAnyH_take (i := 9) (v := ?_) (by simp only [List.getElem?_toArray, List.getElem?_cons_succ, List.getElem?_cons_zero]; rfl) (by kernel_rfl) (by kernel_rfl) (by kernel_rfl) (fun _ _ _ h => h) (Or.inl ⟨by rfl, ?_⟩) (by assumption) ?_
              rotate_left
              focus (intro w hSw; (try dsimp only at hSw); go_simp; first | done | with_reducible rfl)
              (try simp only [Act.put, List.setIfInBounds_toArray, List.set_cons_zero, List.set_cons_succ])
              refine wpAnyH_take (i := 10) (v := ?_) (by simp only [List.getElem?_toArray, List.getElem?_cons_succ, List.getElem?_cons_zero]; rfl) (by kernel_rfl) (by kernel_rfl) (by kernel_rfl) (fun _ _ _ h => h) (Or.inl ⟨by rfl, ?_⟩) (by assumption) ?_
              rotate_left
              focus (intro w hSw; (try dsimp only at hSw); go_simp; first | done | with_reducible rfl)
              (try simp only [Act.put, List.setIfInBounds_toArray, List.set_cons_zero, List.set_cons_succ])
              refine wpAnyH_take (i := 11) (v := ?_) (by simp only [List.getElem?_toArray, List.getElem?_cons_succ, List.getElem?_cons_zero]; rfl) (by kernel_rfl) (by kernel_rfl) (by kernel_rfl) (fun _ _ _ h => h) (Or.inl ⟨by rfl, ?_⟩) (by assumption) ?_
              rotate_left
              focus (intro w hSw; (try dsimp only at hSw); go_simp; first | done | with_reducible rfl)
              (try simp only [Act.put, List.setIfInBounds_toArray, List.set_cons_zero, List.set_cons_succ])
              refine wpAnyH_take (i := 13) (v := ?_) (by simp only [List.getElem?_toArray, List.getElem?_cons_succ, List.getElem?_cons_zero]; rfl) (by kernel_rfl) (by kernel_rfl) (by kernel_rfl) (fun _ _ _ h => h) (Or.inl ⟨by rfl, ?_⟩) (by assumption) ?_
              rotate_left
              focus (intro w hSw; (try dsimp only at hSw); go_simp; first | done | with_reducible rfl)
              (try simp only [Act.put, List.setIfInBounds_toArray, List.set_cons_zero, List.set_cons_succ])
              refine wpAnyH_take (i := 14) (v := ?_) (by simp only [List.getElem?_toArray, List.getElem?_cons_succ, List.getElem?_cons_zero]; rfl) (by kernel_rfl) (by kernel_rfl) (by kernel_rfl) (fun _ _ _ h => h) (Or.inl ⟨by rfl, ?_⟩) (by assumption) ?_
              rotate_left
              focus (intro w hSw; (try dsimp only at hSw); go_simp; first | done | with_reducible rfl)
              (try simp only [Act.put, List.setIfInBounds_toArray, List.set_cons_zero, List.set_cons_succ])
              refine wpAnyH_ready (rs := [12, 15]) (by kernel_rfl) (by simp) ?_
              refine AllReadyH.cons (i := 12) (by simp only [List.getElem?_toArray, List.getElem?_cons_succ, List.getElem?_cons_zero]; rfl) (fun K hK => ?_) ?_
              · go_simp
                (go_at_call 18; refine (one_entries (B := w.heap.size) (X := wd.heap.size) (s := s2) hok2.out ?_).mono ?_; (focus ((repeat (first | with_reducible assumption | with_reducible refine One.up (drew_bel _) ?_ | with_reducible refine One.up (below_al (Below.refl _ _) _) ?_)); done)); rintro e w6 ⟨⟨az, cz, rfl, hex⟩, hb6⟩; have hb7 : Below wd.heap.size wd w6 := below_then (by repeat (first | with_reducible assumption | with_reducible exact Below.refl _ _ | with_reducible refine below_al ?_ _ | with_reducible refine below_drew ?_ | with_reducible refine below_drewN ?_ _)) hb6; have he6 := World.ownsRow_up he2 hb7; have hex6 := own_weak (base' := wd.heap.size) hex (Below.size (B := wd.heap.size) (w := wd) (by repeat (first | with_reducible assumption | with_reducible exact Below.refl _ _ | with_reducible refine below_al ?_ _ | with_reducible refine below_drew ?_ | with_reducible refine below_drewN ?_ _))); (try have kb : At w6 wd.heap.size 35 #[.int .i64 xd, .int .i64 xk, .string xn] := At.bel (by first | exact At.new' rfl | exact At.drw (At.new' rfl)) hb6))
                (try go_wp2_with fail)
                refine hK.out _ _ ?_ (fun hHeld => ?_)
                · (try dsimp only); (first | ((try go_split_ands); refine ⟨?_, ?_, ?_, ?_, ?_⟩; (focus ((repeat (first | with_reducible assumption | with_reducible exact Below.refl _ _ | with_reducible refine below_al ?_ _ | with_reducible refine below_drew ?_ | with_reducible refine below_drewN ?_ _ | with_reducible refine below_then ?_ hb6)); done)); (focus ((repeat (first | with_reducible assumption | with_reducible apply At.drw | with_reducible refine At.al ?_ _ | with_reducible refine At.bel ?_ hb6)); done)); (focus (first | (with_reducible refine At.c0' (t := 35) (x := .int .i64 xd) (y := .int .i64 xk) (z := .string xn) ?_; (repeat (first | with_reducible assumption | with_reducible apply At.drw | with_reducible refine At.al ?_ _ | with_reducible refine At.bel ?_ hb6)); done) | (with_reducible refine At.c1' (t := 35) (x := .int .i64 xd) (y := .int .i64 xk) (z := .string xn) ?_; (repeat (first | with_reducible assumption | with_reducible apply At.drw | with_reducible refine At.al ?_ _ | with_reducible refine At.bel ?_ hb6)); done) | (with_reducible refine At.c2' (t := 35) (x := .int .i64 xd) (y := .int .i64 xk) (z := .string xn) ?_; (repeat (first | with_reducible assumption | with_reducible apply At.drw | with_reducible refine At.al ?_ _ | with_reducible refine At.bel ?_ hb6)); done) )); (focus (first | (with_reducible refine At.c0' (t := 35) (x := .int .i64 xd) (y := .int .i64 xk) (z := .string xn) ?_; (repeat (first | with_reducible assumption | with_reducible apply At.drw | with_reducible refine At.al ?_ _ | with_reducible refine At.bel ?_ hb6)); done) | (with_reducible refine At.c1' (t := 35) (x := .int .i64 xd) (y := .int .i64 xk) (z := .string xn) ?_; (repeat (first | with_reducible assumption | with_reducible apply At.drw | with_reducible refine At.al ?_ _ | with_reducible refine At.bel ?_ hb6)); done) | (with_reducible refine At.c2' (t := 35) (x := .int .i64 xd) (y := .int .i64 xk) (z := .string xn) ?_; (repeat (first | with_reducible assumption | with_reducible apply At.drw | with_reducible refine At.al ?_ _ | with_reducible refine At.bel ?_ hb6)); done) )); (focus (first | (with_reducible refine At.c0' (t := 35) (x := .int .i64 xd) (y := .int .i64 xk) (z := .string xn) ?_; (repeat (first | with_reducible assumption | with_reducible apply At.drw | with_reducible refine At.al ?_ _ | with_reducible refine At.bel ?_ hb6)); done) | (with_reducible refine At.c1' (t := 35) (x := .int .i64 xd) (y := .int .i64 xk) (z := .string xn) ?_; (repeat (first | with_reducible assumption | with_reducible apply At.drw | with_reducible refine At.al ?_ _ | with_reducible refine At.bel ?_ hb6)); done) | (with_reducible refine At.c2' (t := 35) (x := .int .i64 xd) (y := .int .i64 xk) (z := .string xn) ?_; (repeat (first | with_reducible assumption | with_reducible apply At.drw | with_reducible refine At.al ?_ _ | with_reducible refine At.bel ?_ hb6)); done) ))) | go_keep)
                clear hK K
                (try simp only [Act.put, List.setIfInBounds_toArray, List.set_cons_zero, List.set_cons_succ])
                refine wpAnyH_ready (rs := [15]) (by kernel_rfl) (by simp) ?_
                refine AllReadyH.cons (i := 15) (by simp only [List.getElem?_toArray, List.getElem?_cons_succ, List.getElem?_cons_zero]; rfl) (fun K hK => ?_) ?_
                · go_simp
                  refine hK.out _ _ ?_ (fun hHeld => ?_)
                  · (try dsimp only); (first | ((try go_split_ands); refine ⟨?_, ?_, ?_, ?_, ?_⟩; (focus ((repeat (first | with_reducible assumption | with_reducible exact Below.refl _ _ | with_reducible refine below_al ?_ _ | with_reducible refine below_drew ?_ | with_reducible refine below_drewN ?_ _ | with_reducible refine below_then ?_ hb6)); done)); (focus ((repeat (first | with_reducible assumption | with_reducible apply At.drw | with_reducible refine At.al ?_ _ | with_reducible refine At.bel ?_ hb6)); done)); (focus (first | (with_reducible refine At.c0' (t := 35) (x := .int .i64 xd) (y := .int .i64 xk) (z := .string xn) ?_; (repeat (first | with_reducible assumption | with_reducible apply At.drw | with_reducible refine At.al ?_ _ | with_reducible refine At.bel ?_ hb6)); done) | (with_reducible refine At.c1' (t := 35) (x := .int .i64 xd) (y := .int .i64 xk) (z := .string xn) ?_; (repeat (first | with_reducible assumption | with_reducible apply At.drw | with_reducible refine At.al ?_ _ | with_reducible refine At.bel ?_ hb6)); done) | (with_reducible refine At.c2' (t := 35) (x := .int .i64 xd) (y := .int .i64 xk) (z := .string xn) ?_; (repeat (first | with_reducible assumption | with_reducible apply At.drw | with_reducible refine At.al ?_ _ | with_reducible refine At.bel ?_ hb6)); done) )); (focus (first | (with_reducible refine At.c0' (t := 35) (x := .int .i64 xd) (y := .int .i64 xk) (z := .string xn) ?_; (repeat (first | with_reducible assumption | with_reducible apply At.drw | with_reducible refine At.al ?_ _ | with_reducible refine At.bel ?_ hb6)); done) | (with_reducible refine At.c1' (t := 35) (x := .int .i64 xd) (y := .int .i64 xk) (z := .string xn) ?_; (repeat (first | with_reducible assumption | with_reducible apply At.drw | with_reducible refine At.al ?_ _ | with_reducible refine At.bel ?_ hb6)); done) | (with_reducible refine At.c2' (t := 35) (x := .int .i64 xd) (y := .int .i64 xk) (z := .string xn) ?_; (repeat (first | with_reducible assumption | with_reducible apply At.drw | with_reducible refine At.al ?_ _ | with_reducible refine At.bel ?_ hb6)); done) )); (focus (first | (with_reducible refine At.c0' (t := 35) (x := .int .i64 xd) (y := .int .i64 xk) (z := .string xn) ?_; (repeat (first | with_reducible assumption | with_reducible apply At.drw | with_reducible refine At.al ?_ _ | with_reducible refine At.bel ?_ hb6)); done) | (with_reducible refine At.c1' (t := 35) (x := .int .i64 xd) (y := .int .i64 xk) (z := .string xn) ?_; (repeat (first | with_reducible assumption | with_reducible apply At.drw | with_reducible refine At.al ?_ _ | with_reducible refine At.bel ?_ hb6)); done) | (with_reducible refine At.c2' (t := 35) (x := .int .i64 xd) (y := .int .i64 xk) (z := .string xn) ?_; (repeat (first | with_reducible assumption | with_reducible apply At.drw | with_reducible refine At.al ?_ _ | with_reducible refine At.bel ?_ hb6)); done) ))) | go_keep)
                  clear hK K
                  (try simp only [Act.put, List.setIfInBounds_toArray, List.set_cons_zero, List.set_cons_succ])
                  refine wpAnyH_ready (rs := [16]) (by kernel_rfl) (by simp) ?_
                  refine AllReadyH.cons (i := 16) (by simp only [List.getElem?_toArray, List.getElem?_cons_succ, List.getElem?_cons_zero]; rfl) (fun K hK => ?_) ?_
                  · (refine step_append_w _ rfl (.tmp 125) (.tmp 127) 23 rfl W1.heap.size 35 i0 (.agg #[.int .i64 0, .int .i64 0, .string ⟨#[]⟩]) 3 32 Try.underlying23 hi hz0 hz1 hz2 rfl (by decide) (.slice ae s.kept.length ce) s.kept.length (s.kept.flatMap encE) (by first | rfl | (simp [Act.eval]; done)) (he6.alloc _) ⟨w6.heap.size, 0, none⟩ 1 1 [.int .i64 xd, .int .i64 xk, .string xn] (by first | rfl | (simp [Act.eval]; done)) rfl (three_new (At.new _ _ _)) (by intro u hu; simp at hu; rcases hu with rfl | rfl | rfl <;> rfl) (by have := hk7.out; unfold maxLen; omega) (by have := hk7.out; omega) (LE.out _ (by repeat (first | with_reducible assumption | with_reducible exact Below.refl _ _ | with_reducible refine below_al ?_ _ | with_reducible refine below_drew ?_ | with_reducible refine below_drewN ?_ _))) ?_; intro a5 c5 w7 ho7 hg7 hloc7; have hE2 := isE_push ho7 hk2.out; have hE1 : IsE s2.kept (.slice az s2.kept.length cz) w7 := row_isE (own_grown (World.ownsRow_up hex6 (below_al (Below.refl _ _) _)) hg7 (fun b hb => hea.out b hb)); have kx7 : At w7 wr.heap.size 35 #[.int .i64 xd, .int .i64 xk, .string xn] := at_grown (by go_split_ands; repeat (first | with_reducible assumption | with_reducible apply At.drw | with_reducible refine At.al ?_ _ | with_reducible refine At.bel ?_ hb6)) hg7 hxe.out; have hB7 : Below w.heap.size w w7 := below_grown (by go_split_ands; repeat (first | with_reducible assumption | with_reducible exact Below.refl _ _ | with_reducible refine below_al ?_ _ | with_reducible refine below_drew ?_ | with_reducible refine below_drewN ?_ _ | with_reducible refine below_then ?_ hb6)) hg7 heb.out; have hO7 : One w.heap.size wd.heap.size w7 g s2 := hGr.out _ _ (by repeat (first | with_reducible assumption | with_reducible exact Below.refl _ _ | with_reducible refine below_al ?_ _ | with_reducible refine below_drew ?_ | with_reducible refine below_drewN ?_ _)) hg7; clear ho7 hg7 hloc7)
                    refine hK.out _ _ ?_ (fun hHeld => ?_)
                    · (try dsimp only); (first | ((try go_split_ands); refine ⟨?_, ?_, ?_, ?_, ?_⟩; (focus ((repeat (first | with_reducible assumption | with_reducible exact Below.refl _ _ | with_reducible refine below_al ?_ _ | with_reducible refine below_drew ?_ | with_reducible refine below_drewN ?_ _ | with_reducible refine below_then ?_ hb6)); done)); (focus ((repeat (first | with_reducible assumption | with_reducible apply At.drw | with_reducible refine At.al ?_ _ | with_reducible refine At.bel ?_ hb6)); done)); (focus (first | (with_reducible refine At.c0' (t := 35) (x := .int .i64 xd) (y := .int .i64 xk) (z := .string xn) ?_; (repeat (first | with_reducible assumption | with_reducible apply At.drw | with_reducible refine At.al ?_ _ | with_reducible refine At.bel ?_ hb6)); done) | (with_reducible refine At.c1' (t := 35) (x := .int .i64 xd) (y := .int .i64 xk) (z := .string xn) ?_; (repeat (first | with_reducible assumption | with_reducible apply At.drw | with_reducible refine At.al ?_ _ | with_reducible refine At.bel ?_ hb6)); done) | (with_reducible refine At.c2' (t := 35) (x := .int .i64 xd) (y := .int .i64 xk) (z := .string xn) ?_; (repeat (first | with_reducible assumption | with_reducible apply At.drw | with_reducible refine At.al ?_ _ | with_reducible refine At.bel ?_ hb6)); done) )); (focus (first | (with_reducible refine At.c0' (t := 35) (x := .int .i64 xd) (y := .int .i64 xk) (z := .string xn) ?_; (repeat (first | with_reducible assumption | with_reducible apply At.drw | with_reducible refine At.al ?_ _ | with_reducible refine At.bel ?_ hb6)); done) | (with_reducible refine At.c1' (t := 35) (x := .int .i64 xd) (y := .int .i64 xk) (z := .string xn) ?_; (repeat (first | with_reducible assumption | with_reducible apply At.drw | with_reducible refine At.al ?_ _ | with_reducible refine At.bel ?_ hb6)); done) | (with_reducible refine At.c2' (t := 35) (x := .int .i64 xd) (y := .int .i64 xk) (z := .string xn) ?_; (repeat (first | with_reducible assumption | with_reducible apply At.drw | with_reducible refine At.al ?_ _ | with_reducible refine At.bel ?_ hb6)); done) )); (focus (first | (with_reducible refine At.c0' (t := 35) (x := .int .i64 xd) (y := .int .i64 xk) (z := .string xn) ?_; (repeat (first | with_reducible assumption | with_reducible apply At.drw | with_reducible refine At.al ?_ _ | with_reducible refine At.bel ?_ hb6)); done) | (with_reducible refine At.c1' (t := 35) (x := .int .i64 xd) (y := .int .i64 xk) (z := .string xn) ?_; (repeat (first | with_reducible assumption | with_reducible apply At.drw | with_reducible refine At.al ?_ _ | with_reducible refine At.bel ?_ hb6)); done) | (with_reducible refine At.c2' (t := 35) (x := .int .i64 xd) (y := .int .i64 xk) (z := .string xn) ?_; (repeat (first | with_reducible assumption | with_reducible apply At.drw | with_reducible refine At.al ?_ _ | with_reducible refine At.bel ?_ hb6)); done) ))) | go_keep)
                    clear hK K
                    (try simp only [Act.put, List.setIfInBounds_toArray, List.set_cons_zero, List.set_cons_succ])
                    refine wpAnyH_ready (rs := [17]) (by kernel_rfl) (by simp) ?_
                    refine AllReadyH.cons (i := 17) (by simp only [List.getElem?_toArray, List.getElem?_cons_succ, List.getElem?_cons_zero]; rfl) (fun K hK => ?_) ?_
                    · go_simp
                      (go_at_call 19; refine (eqvE_any s2.kept _ _ _ hK7.out hE1 hE2).mono ?_; rintro e w8 ⟨rfl, hb6⟩; have hO8 := hO7.up hb6; have hB8 := below_then hB7 hb6; have kx8 := At.bel kx7 hb6)
                      (try go_wp2_with fail)
                      refine hK.out _ _ ?_ (fun hHeld => ?_)
                      · (try dsimp only); (first | ((try go_split_ands); refine ⟨?_, ?_, ?_, ?_, ?_⟩; (focus ((repeat (first | with_reducible assumption | with_reducible exact Below.refl _ _ | with_reducible refine below_al ?_ _ | with_reducible refine below_drew ?_ | with_reducible refine below_drewN ?_ _ | with_reducible refine below_then ?_ hb6)); done)); (focus ((repeat (first | with_reducible assumption | with_reducible apply At.drw | with_reducible refine At.al ?_ _ | with_reducible refine At.bel ?_ hb6)); done)); (focus (first | (with_reducible refine At.c0' (t := 35) (x := .int .i64 xd) (y := .int .i64 xk) (z := .string xn) ?_; (repeat (first | with_reducible assumption | with_reducible apply At.drw | with_reducible refine At.al ?_ _ | with_reducible refine At.bel ?_ hb6)); done) | (with_reducible refine At.c1' (t := 35) (x := .int .i64 xd) (y := .int .i64 xk) (z := .string xn) ?_; (repeat (first | with_reducible assumption | with_reducible apply At.drw | with_reducible refine At.al ?_ _ | with_reducible refine At.bel ?_ hb6)); done) | (with_reducible refine At.c2' (t := 35) (x := .int .i64 xd) (y := .int .i64 xk) (z := .string xn) ?_; (repeat (first | with_reducible assumption | with_reducible apply At.drw | with_reducible refine At.al ?_ _ | with_reducible refine At.bel ?_ hb6)); done) )); (focus (first | (with_reducible refine At.c0' (t := 35) (x := .int .i64 xd) (y := .int .i64 xk) (z := .string xn) ?_; (repeat (first | with_reducible assumption | with_reducible apply At.drw | with_reducible refine At.al ?_ _ | with_reducible refine At.bel ?_ hb6)); done) | (with_reducible refine At.c1' (t := 35) (x := .int .i64 xd) (y := .int .i64 xk) (z := .string xn) ?_; (repeat (first | with_reducible assumption | with_reducible apply At.drw | with_reducible refine At.al ?_ _ | with_reducible refine At.bel ?_ hb6)); done) | (with_reducible refine At.c2' (t := 35) (x := .int .i64 xd) (y := .int .i64 xk) (z := .string xn) ?_; (repeat (first | with_reducible assumption | with_reducible apply At.drw | with_reducible refine At.al ?_ _ | with_reducible refine At.bel ?_ hb6)); done) )); (focus (first | (with_reducible refine At.c0' (t := 35) (x := .int .i64 xd) (y := .int .i64 xk) (z := .string xn) ?_; (repeat (first | with_reducible assumption | with_reducible apply At.drw | with_reducible refine At.al ?_ _ | with_reducible refine At.bel ?_ hb6)); done) | (with_reducible refine At.c1' (t := 35) (x := .int .i64 xd) (y := .int .i64 xk) (z := .string xn) ?_; (repeat (first | with_reducible assumption | with_reducible apply At.drw | with_reducible refine At.al ?_ _ | with_reducible refine At.bel ?_ hb6)); done) | (with_reducible refine At.c2' (t := 35) (x := .int .i64 xd) (y := .int .i64 xk) (z := .string xn) ?_; (repeat (first | with_reducible assumption | with_reducible apply At.drw | with_reducible refine At.al ?_ _ | with_reducible refine At.bel ?_ hb6)); done) ))) | go_keep)
                      clear hK K
                      (try simp only [Act.put, List.setIfInBounds_toArray, List.set_cons_zero, List.set_cons_succ])
                      refine wpAnyH_take (i := 18) (v := ?_) (by simp only [List.getElem?_toArray, List.getElem?_cons_succ, List.getElem?_cons_zero]; rfl) (by kernel_rfl) (by kernel_rfl) (by kernel_rfl) (fun _ _ _ h => h) (Or.inl ⟨by rfl, ?_⟩) (by assumption) ?_
                      rotate_left
                      focus (intro w hSw; (try dsimp only at hSw); go_simp; first | done | with_reducible rfl)
                      (try simp only [Act.put, List.setIfInBounds_toArray, List.set_cons_zero, List.set_cons_succ])
                      refine wpAnyH_take (i := 19) (v := ?_) (by simp only [List.getElem?_toArray, List.getElem?_cons_succ, List.getElem?_cons_zero]; rfl) (by kernel_rfl) (by kernel_rfl) (by kernel_rfl) (fun _ _ _ h => h) (Or.inl ⟨by rfl, ?_⟩) (by assumption) ?_
                      rotate_left
                      focus (intro w hSw; (try dsimp only at hSw); go_simp; first | done | with_reducible rfl)
                      (try simp only [Act.put, List.setIfInBounds_toArray, List.set_cons_zero, List.set_cons_succ])
                      refine wpAnyH_done (by kernel_rfl) ?_ _
                      refine NoPanic.normal ?_
                      obtain ⟨x0, x1, x2⟩ := kx8.three
                      go_wp2_with fail
                      go_roundg (n - (k + 1))
                      case measure => have := hr.out; omega
                      case rel => exact ⟨k + 1, s2, by omega, by go_num, by rw [hp7.out], Lib.hid rfl, Lib.hid ⟨hok2.out, htg.out⟩, Lib.hid ⟨wd.heap.size, hO8⟩, hB8⟩
                    exact AllReadyH.nil
                  exact AllReadyH.nil
                exact AllReadyH.nil
              refine AllReadyH.cons (i := 15) (by simp only [List.getElem?_toArray, List.getElem?_cons_succ, List.getElem?_cons_zero]; rfl) (fun K hK => ?_) ?_
              · go_simp
                refine hK.out _ _ ?_ (fun hHeld => ?_)
                · (try dsimp only); (first | ((try go_split_ands); refine ⟨?_, ?_, ?_, ?_, ?_⟩; (focus ((repeat (first | with_reducible assumption | with_reducible exact Below.refl _ _ | with_reducible refine below_al ?_ _ | with_reducible refine below_drew ?_ | with_reducible refine below_drewN ?_ _ | with_reducible refine below_then ?_ hb6)); done)); (focus ((repeat (first | with_reducible assumption | with_reducible apply At.drw | with_reducible refine At.al ?_ _ | with_reducible refine At.bel ?_ hb6)); done)); (focus (first | (with_reducible refine At.c0' (t := 35) (x := .int .i64 xd) (y := .int .i64 xk) (z := .string xn) ?_; (repeat (first | with_reducible assumption | with_reducible apply At.drw | with_reducible refine At.al ?_ _ | with_reducible refine At.bel ?_ hb6)); done) | (with_reducible refine At.c1' (t := 35) (x := .int .i64 xd) (y := .int .i64 xk) (z := .string xn) ?_; (repeat (first | with_reducible assumption | with_reducible apply At.drw | with_reducible refine At.al ?_ _ | with_reducible refine At.bel ?_ hb6)); done) | (with_reducible refine At.c2' (t := 35) (x := .int .i64 xd) (y := .int .i64 xk) (z := .string xn) ?_; (repeat (first | with_reducible assumption | with_reducible apply At.drw | with_reducible refine At.al ?_ _ | with_reducible refine At.bel ?_ hb6)); done) )); (focus (first | (with_reducible refine At.c0' (t := 35) (x := .int .i64 xd) (y := .int .i64 xk) (z := .string xn) ?_; (repeat (first | with_reducible assumption | with_reducible apply At.drw | with_reducible refine At.al ?_ _ | with_reducible refine At.bel ?_ hb6)); done) | (with_reducible refine At.c1' (t := 35) (x := .int .i64 xd) (y := .int .i64 xk) (z := .string xn) ?_; (repeat (first | with_reducible assumption | with_reducible apply At.drw | with_reducible refine At.al ?_ _ | with_reducible refine At.bel ?_ hb6)); done) | (with_reducible refine At.c2' (t := 35) (x := .int .i64 xd) (y := .int .i64 xk) (z := .string xn) ?_; (repeat (first | with_reducible assumption | with_reducible apply At.drw | with_reducible refine At.al ?_ _ | with_reducible refine At.bel ?_ hb6)); done) )); (focus (first | (with_reducible refine At.c0' (t := 35) (x := .int .i64 xd) (y := .int .i64 xk) (z := .string xn) ?_; (repeat (first | with_reducible assumption | with_reducible apply At.drw | with_reducible refine At.al ?_ _ | with_reducible refine At.bel ?_ hb6)); done) | (with_reducible refine At.c1' (t := 35) (x := .int .i64 xd) (y := .int .i64 xk) (z := .string xn) ?_; (repeat (first | with_reducible assumption | with_reducible apply At.drw | with_reducible refine At.al ?_ _ | with_reducible refine At.bel ?_ hb6)); done) | (with_reducible refine At.c2' (t := 35) (x := .int .i64 xd) (y := .int .i64 xk) (z := .string xn) ?_; (repeat (first | with_reducible assumption | with_reducible apply At.drw | with_reducible refine At.al ?_ _ | with_reducible refine At.bel ?_ hb6)); done) ))) | go_keep)
                clear hK K
                (try simp only [Act.put, List.setIfInBounds_toArray, List.set_cons_zero, List.set_cons_succ])
                refine wpAnyH_ready (rs := [12]) (by kernel_rfl) (by simp) ?_
                refine AllReadyH.cons (i := 12) (by simp only [List.getElem?_toArray, List.getElem?_cons_succ, List.getElem?_cons_zero]; rfl) (fun K hK => ?_) ?_
                · go_simp
                  (go_at_call 18; refine (one_entries (B := w.heap.size) (X := wd.heap.size) (s := s2) hok2.out ?_).mono ?_; (focus ((repeat (first | with_reducible assumption | with_reducible refine One.up (drew_bel _) ?_ | with_reducible refine One.up (below_al (Below.refl _ _) _) ?_)); done)); rintro e w6 ⟨⟨az, cz, rfl, hex⟩, hb6⟩; have hb7 : Below wd.heap.size wd w6 := below_then (by repeat (first | with_reducible assumption | with_reducible exact Below.refl _ _ | with_reducible refine below_al ?_ _ | with_reducible refine below_drew ?_ | with_reducible refine below_drewN ?_ _)) hb6; have he6 := World.ownsRow_up he2 hb7; have hex6 := own_weak (base' := wd.heap.size) hex (Below.size (B := wd.heap.size) (w := wd) (by repeat (first | with_reducible assumption | with_reducible exact Below.refl _ _ | with_reducible refine below_al ?_ _ | with_reducible refine below_drew ?_ | with_reducible refine below_drewN ?_ _))); (try have kb : At w6 wd.heap.size 35 #[.int .i64 xd, .int .i64 xk, .string xn] := At.bel (by first | exact At.new' rfl | exact At.drw (At.new' rfl)) hb6))
                  (try go_wp2_with fail)
                  refine hK.out _ _ ?_ (fun hHeld => ?_)
                  · (try dsimp only); (first | ((try go_split_ands); refine ⟨?_, ?_, ?_, ?_, ?_⟩; (focus ((repeat (first | with_reducible assumption | with_reducible exact Below.refl _ _ | with_reducible refine below_al ?_ _ | with_reducible refine below_drew ?_ | with_reducible refine below_drewN ?_ _ | with_reducible refine below_then ?_ hb6)); done)); (focus ((repeat (first | with_reducible assumption | with_reducible apply At.drw | with_reducible refine At.al ?_ _ | with_reducible refine At.bel ?_ hb6)); done)); (focus (first | (with_reducible refine At.c0' (t := 35) (x := .int .i64 xd) (y := .int .i64 xk) (z := .string xn) ?_; (repeat (first | with_reducible assumption | with_reducible apply At.drw | with_reducible refine At.al ?_ _ | with_reducible refine At.bel ?_ hb6)); done) | (with_reducible refine At.c1' (t := 35) (x := .int .i64 xd) (y := .int .i64 xk) (z := .string xn) ?_; (repeat (first | with_reducible assumption | with_reducible apply At.drw | with_reducible refine At.al ?_ _ | with_reducible refine At.bel ?_ hb6)); done) | (with_reducible refine At.c2' (t := 35) (x := .int .i64 xd) (y := .int .i64 xk) (z := .string xn) ?_; (repeat (first | with_reducible assumption | with_reducible apply At.drw | with_reducible refine At.al ?_ _ | with_reducible refine At.bel ?_ hb6)); done) )); (focus (first | (with_reducible refine At.c0' (t := 35) (x := .int .i64 xd) (y := .int .i64 xk) (z := .string xn) ?_; (repeat (first | with_reducible assumption | with_reducible apply At.drw | with_reducible refine At.al ?_ _ | with_reducible refine At.bel ?_ hb6)); done) | (with_reducible refine At.c1' (t := 35) (x := .int .i64 xd) (y := .int .i64 xk) (z := .string xn) ?_; (repeat (first | with_reducible assumption | with_reducible apply At.drw | with_reducible refine At.al ?_ _ | with_reducible refine At.bel ?_ hb6)); done) | (with_reducible refine At.c2' (t := 35) (x := .int .i64 xd) (y := .int .i64 xk) (z := .string xn) ?_; (repeat (first | with_reducible assumption | with_reducible apply At.drw | with_reducible refine At.al ?_ _ | with_reducible refine At.bel ?_ hb6)); done) )); (focus (first | (with_reducible refine At.c0' (t := 35) (x := .int .i64 xd) (y := .int .i64 xk) (z := .string xn) ?_; (repeat (first | with_reducible assumption | with_reducible apply At.drw | with_reducible refine At.al ?_ _ | with_reducible refine At.bel ?_ hb6)); done) | (with_reducible refine At.c1' (t := 35) (x := .int .i64 xd) (y := .int .i64 xk) (z := .string xn) ?_; (repeat (first | with_reducible assumption | with_reducible apply At.drw | with_reducible refine At.al ?_ _ | with_reducible refine At.bel ?_ hb6)); done) | (with_reducible refine At.c2' (t := 35) (x := .int .i64 xd) (y := .int .i64 xk) (z := .string xn) ?_; (repeat (first | with_reducible assumption | with_reducible apply At.drw | with_reducible refine At.al ?_ _ | with_reducible refine At.bel ?_ hb6)); done) ))) | go_keep)
                  clear hK K
                  (try simp only [Act.put, List.setIfInBounds_toArray, List.set_cons_zero, List.set_cons_succ])
                  refine wpAnyH_ready (rs := [16]) (by kernel_rfl) (by simp) ?_
                  refine AllReadyH.cons (i := 16) (by simp only [List.getElem?_toArray, List.getElem?_cons_succ, List.getElem?_cons_zero]; rfl) (fun K hK => ?_) ?_
                  · (refine step_append_w _ rfl (.tmp 125) (.tmp 127) 23 rfl W1.heap.size 35 i0 (.agg #[.int .i64 0, .int .i64 0, .string ⟨#[]⟩]) 3 32 Try.underlying23 hi hz0 hz1 hz2 rfl (by decide) (.slice ae s.kept.length ce) s.kept.length (s.kept.flatMap encE) (by first | rfl | (simp [Act.eval]; done)) he6 ⟨wd.heap.size, 0, none⟩ 1 1 [.int .i64 xd, .int .i64 xk, .string xn] (by first | rfl | (simp [Act.eval]; done)) rfl (three_new kb) (by intro u hu; simp at hu; rcases hu with rfl | rfl | rfl <;> rfl) (by have := hk7.out; unfold maxLen; omega) (by have := hk7.out; omega) (LE.out _ (by repeat (first | with_reducible assumption | with_reducible exact Below.refl _ _ | with_reducible refine below_al ?_ _ | with_reducible refine below_drew ?_ | with_reducible refine below_drewN ?_ _))) ?_; intro a5 c5 w7 ho7 hg7 hloc7; have hE2 := isE_push ho7 hk2.out; have hE1 : IsE s2.kept (.slice az s2.kept.length cz) w7 := row_isE (own_grown hex6 hg7 (fun b hb => hea.out b hb)); have kx7 : At w7 wr.heap.size 35 #[.int .i64 xd, .int .i64 xk, .string xn] := at_grown (by go_split_ands; repeat (first | with_reducible assumption | with_reducible apply At.drw | with_reducible refine At.al ?_ _ | with_reducible refine At.bel ?_ hb6)) hg7 hxe.out; have hB7 : Below w.heap.size w w7 := below_grown (by go_split_ands; repeat (first | with_reducible assumption | with_reducible exact Below.refl _ _ | with_reducible refine below_al ?_ _ | with_reducible refine below_drew ?_ | with_reducible refine below_drewN ?_ _ | with_reducible refine below_then ?_ hb6)) hg7 heb.out; have hO7 : One w.heap.size wd.heap.size w7 g s2 := hGr.out _ _ (by repeat (first | with_reducible assumption | with_reducible exact Below.refl _ _ | with_reducible refine below_al ?_ _ | with_reducible refine below_drew ?_ | with_reducible refine below_drewN ?_ _)) hg7; clear ho7 hg7 hloc7)
                    refine hK.out _ _ ?_ (fun hHeld => ?_)
                    · (try dsimp only); (first | ((try go_split_ands); refine ⟨?_, ?_, ?_, ?_, ?_⟩; (focus ((repeat (first | with_reducible assumption | with_reducible exact Below.refl _ _ | with_reducible refine below_al ?_ _ | with_reducible refine below_drew ?_ | with_reducible refine below_drewN ?_ _ | with_reducible refine below_then ?_ hb6)); done)); (focus ((repeat (first | with_reducible assumption | with_reducible apply At.drw | with_reducible refine At.al ?_ _ | with_reducible refine At.bel ?_ hb6)); done)); (focus (first | (with_reducible refine At.c0' (t := 35) (x := .int .i64 xd) (y := .int .i64 xk) (z := .string xn) ?_; (repeat (first | with_reducible assumption | with_reducible apply At.drw | with_reducible refine At.al ?_ _ | with_reducible refine At.bel ?_ hb6)); done) | (with_reducible refine At.c1' (t := 35) (x := .int .i64 xd) (y := .int .i64 xk) (z := .string xn) ?_; (repeat (first | with_reducible assumption | with_reducible apply At.drw | with_reducible refine At.al ?_ _ | with_reducible refine At.bel ?_ hb6)); done) | (with_reducible refine At.c2' (t := 35) (x := .int .i64 xd) (y := .int .i64 xk) (z := .string xn) ?_; (repeat (first | with_reducible assumption | with_reducible apply At.drw | with_reducible refine At.al ?_ _ | with_reducible refine At.bel ?_ hb6)); done) )); (focus (first | (with_reducible refine At.c0' (t := 35) (x := .int .i64 xd) (y := .int .i64 xk) (z := .string xn) ?_; (repeat (first | with_reducible assumption | with_reducible apply At.drw | with_reducible refine At.al ?_ _ | with_reducible refine At.bel ?_ hb6)); done) | (with_reducible refine At.c1' (t := 35) (x := .int .i64 xd) (y := .int .i64 xk) (z := .string xn) ?_; (repeat (first | with_reducible assumption | with_reducible apply At.drw | with_reducible refine At.al ?_ _ | with_reducible refine At.bel ?_ hb6)); done) | (with_reducible refine At.c2' (t := 35) (x := .int .i64 xd) (y := .int .i64 xk) (z := .string xn) ?_; (repeat (first | with_reducible assumption | with_reducible apply At.drw | with_reducible refine At.al ?_ _ | with_reducible refine At.bel ?_ hb6)); done) )); (focus (first | (with_reducible refine At.c0' (t := 35) (x := .int .i64 xd) (y := .int .i64 xk) (z := .string xn) ?_; (repeat (first | with_reducible assumption | with_reducible apply At.drw | with_reducible refine At.al ?_ _ | with_reducible refine At.bel ?_ hb6)); done) | (with_reducible refine At.c1' (t := 35) (x := .int .i64 xd) (y := .int .i64 xk) (z := .string xn) ?_; (repeat (first | with_reducible assumption | with_reducible apply At.drw | with_reducible refine At.al ?_ _ | with_reducible refine At.bel ?_ hb6)); done) | (with_reducible refine At.c2' (t := 35) (x := .int .i64 xd) (y := .int .i64 xk) (z := .string xn) ?_; (repeat (first | with_reducible assumption | with_reducible apply At.drw | with_reducible refine At.al ?_ _ | with_reducible refine At.bel ?_ hb6)); done) ))) | go_keep)
                    clear hK K
                    (try simp only [Act.put, List.setIfInBounds_toArray, List.set_cons_zero, List.set_cons_succ])
                    refine wpAnyH_ready (rs := [17]) (by kernel_rfl) (by simp) ?_
                    refine AllReadyH.cons (i := 17) (by simp only [List.getElem?_toArray, List.getElem?_cons_succ, List.getElem?_cons_zero]; rfl) (fun K hK => ?_) ?_
                    · go_simp
                      (go_at_call 19; refine (eqvE_any s2.kept _ _ _ hK7.out hE1 hE2).mono ?_; rintro e w8 ⟨rfl, hb6⟩; have hO8 := hO7.up hb6; have hB8 := below_then hB7 hb6; have kx8 := At.bel kx7 hb6)
                      (try go_wp2_with fail)
                      refine hK.out _ _ ?_ (fun hHeld => ?_)
                      · (try dsimp only); (first | ((try go_split_ands); refine ⟨?_, ?_, ?_, ?_, ?_⟩; (focus ((repeat (first | with_reducible assumption | with_reducible exact Below.refl _ _ | with_reducible refine below_al ?_ _ | with_reducible refine below_drew ?_ | with_reducible refine below_drewN ?_ _ | with_reducible refine below_then ?_ hb6)); done)); (focus ((repeat (first | with_reducible assumption | with_reducible apply At.drw | with_reducible refine At.al ?_ _ | with_reducible refine At.bel ?_ hb6)); done)); (focus (first | (with_reducible refine At.c0' (t := 35) (x := .int .i64 xd) (y := .int .i64 xk) (z := .string xn) ?_; (repeat (first | with_reducible assumption | with_reducible apply At.drw | with_reducible refine At.al ?_ _ | with_reducible refine At.bel ?_ hb6)); done) | (with_reducible refine At.c1' (t := 35) (x := .int .i64 xd) (y := .int .i64 xk) (z := .string xn) ?_; (repeat (first | with_reducible assumption | with_reducible apply At.drw | with_reducible refine At.al ?_ _ | with_reducible refine At.bel ?_ hb6)); done) | (with_reducible refine At.c2' (t := 35) (x := .int .i64 xd) (y := .int .i64 xk) (z := .string xn) ?_; (repeat (first | with_reducible assumption | with_reducible apply At.drw | with_reducible refine At.al ?_ _ | with_reducible refine At.bel ?_ hb6)); done) )); (focus (first | (with_reducible refine At.c0' (t := 35) (x := .int .i64 xd) (y := .int .i64 xk) (z := .string xn) ?_; (repeat (first | with_reducible assumption | with_reducible apply At.drw | with_reducible refine At.al ?_ _ | with_reducible refine At.bel ?_ hb6)); done) | (with_reducible refine At.c1' (t := 35) (x := .int .i64 xd) (y := .int .i64 xk) (z := .string xn) ?_; (repeat (first | with_reducible assumption | with_reducible apply At.drw | with_reducible refine At.al ?_ _ | with_reducible refine At.bel ?_ hb6)); done) | (with_reducible refine At.c2' (t := 35) (x := .int .i64 xd) (y := .int .i64 xk) (z := .string xn) ?_; (repeat (first | with_reducible assumption | with_reducible apply At.drw | with_reducible refine At.al ?_ _ | with_reducible refine At.bel ?_ hb6)); done) )); (focus (first | (with_reducible refine At.c0' (t := 35) (x := .int .i64 xd) (y := .int .i64 xk) (z := .string xn) ?_; (repeat (first | with_reducible assumption | with_reducible apply At.drw | with_reducible refine At.al ?_ _ | with_reducible refine At.bel ?_ hb6)); done) | (with_reducible refine At.c1' (t := 35) (x := .int .i64 xd) (y := .int .i64 xk) (z := .string xn) ?_; (repeat (first | with_reducible assumption | with_reducible apply At.drw | with_reducible refine At.al ?_ _ | with_reducible refine At.bel ?_ hb6)); done) | (with_reducible refine At.c2' (t := 35) (x := .int .i64 xd) (y := .int .i64 xk) (z := .string xn) ?_; (repeat (first | with_reducible assumption | with_reducible apply At.drw | with_reducible refine At.al ?_ _ | with_reducible refine At.bel ?_ hb6)); done) ))) | go_keep)
                      clear hK K
                      (try simp only [Act.put, List.setIfInBounds_toArray, List.set_cons_zero, List.set_cons_succ])
                      refine wpAnyH_take (i := 18) (v := ?_) (by simp only [List.getElem?_toArray, List.getElem?_cons_succ, List.getElem?_cons_zero]; rfl) (by kernel_rfl) (by kernel_rfl) (by kernel_rfl) (fun _ _ _ h => h) (Or.inl ⟨by rfl, ?_⟩) (by assumption) ?_
                      rotate_left
                      focus (intro w hSw; (try dsimp only at hSw); go_simp; first | done | with_reducible rfl)
                      (try simp only [Act.put, List.setIfInBounds_toArray, List.set_cons_zero, List.set_cons_succ])
                      refine wpAnyH_take (i := 19) (v := ?_) (by simp only [List.getElem?_toArray, List.getElem?_cons_succ, List.getElem?_cons_zero]; rfl) (by kernel_rfl) (by kernel_rfl) (by kernel_rfl) (fun _ _ _ h => h) (Or.inl ⟨by rfl, ?_⟩) (by assumption) ?_
                      rotate_left
                      focus (intro w hSw; (try dsimp only at hSw); go_simp; first | done | with_reducible rfl)
                      (try simp only [Act.put, List.setIfInBounds_toArray, List.set_cons_zero, List.set_cons_succ])
                      refine wpAnyH_done (by kernel_rfl) ?_ _
                      refine NoPanic.normal ?_
                      obtain ⟨x0, x1, x2⟩ := kx8.three
                      go_wp2_with fail
                      go_roundg (n - (k + 1))
                      case measure => have := hr.out; omega
                      case rel => exact ⟨k + 1, s2, by omega, by go_num, by rw [hp7.out], Lib.hid rfl, Lib.hid ⟨hok2.out, htg.out⟩, Lib.hid ⟨wd.heap.size, hO8⟩, hB8⟩
                    exact AllReadyH.nil
                  exact AllReadyH.nil
                exact AllReadyH.nil
              exact AllReadyH.nil
          · have r1 : (r == 0) = false := by simpa using r0
            have hsame := doS_err (s := s) (x := ⟨xd, xk, xn⟩) (by rw [hr9]; exact r0)
            rw [hsame] at hO2
            clear hsame hr9 r0
            go_wp2_with fail
            refine (HA.out _ _ hO2).mono ?_
            rintro e we ⟨rfl, hb⟩
            replace hO2 := hO2.up hb
            replace hm2 := World.ownsRow_up hm2 hb
            replace hq2 := World.ownsRow_up hq2 hb
            replace he2 := World.ownsRow_up he2 hb
            replace HBd := below_then HBd hb
            clear hb
            go_wp2_with fail
            refine (HM.out _ _ hO2).mono ?_
            rintro e we ⟨⟨ax, cx, rfl, hmx⟩, hb⟩
            replace hO2 := hO2.up hb
            replace hm2 := World.ownsRow_up hm2 hb
            replace hq2 := World.ownsRow_up hq2 hb
            replace he2 := World.ownsRow_up he2 hb
            replace HBd := below_then HBd hb
            clear hb
            go_wp2_with fail
            refine (eqvS_any M _ _ _ hM6.out (row_isS (by rw [hmm.out]; exact hmx)) (row_isS (by rw [hmm.out]; exact hm2))).mono ?_
            rintro e we ⟨rfl, hb⟩
            replace hO2 := hO2.up hb
            replace hm2 := World.ownsRow_up hm2 hb
            replace hq2 := World.ownsRow_up hq2 hb
            replace he2 := World.ownsRow_up he2 hb
            replace HBd := below_then HBd hb
            clear hb
            go_wp2_with fail
            refine (HO.out _ _ hO2).mono ?_
            rintro e we ⟨⟨ay, cy, rfl, hqx⟩, hb⟩
            replace hO2 := hO2.up hb
            replace hm2 := World.ownsRow_up hm2 hb
            replace hq2 := World.ownsRow_up hq2 hb
            replace he2 := World.ownsRow_up he2 hb
            replace HBd := below_then HBd hb
            clear hb
            go_wp2_with fail
            refine (eqvS_any s.open_ _ _ _ hO6.out (row_isS (by rw [hoo.out]; exact hqx)) (row_isS (by rw [hoo.out]; exact hq2))).mono ?_
            rintro e we ⟨rfl, hb⟩
            replace hO2 := hO2.up hb
            replace hm2 := World.ownsRow_up hm2 hb
            replace hq2 := World.ownsRow_up hq2 hb
            replace he2 := World.ownsRow_up he2 hb
            replace HBd := below_then HBd hb
            clear hb
            go_wp2_with fail
            refine (HE.out _ _ hO2).mono ?_
            rintro e we ⟨⟨az, cz, rfl, hex⟩, hb⟩
            replace hO2 := hO2.up hb
            replace hm2 := World.ownsRow_up hm2 hb
            replace hq2 := World.ownsRow_up hq2 hb
            replace he2 := World.ownsRow_up he2 hb
            replace HBd := below_then HBd hb
            clear hb
            go_wp2_with fail
            refine (eqvE_any s.kept _ _ _ hK6.out (row_isE hex) (row_isE he2)).mono ?_
            rintro e we ⟨rfl, hb⟩
            replace hO2 := hO2.up hb
            replace hm2 := World.ownsRow_up hm2 hb
            replace hq2 := World.ownsRow_up hq2 hb
            replace he2 := World.ownsRow_up he2 hb
            replace HBd := below_then HBd hb
            clear hb
            go_wp2_with fail
            refine (HR.out _ _ hO2).mono ?_
            rintro e we ⟨rfl, hb⟩
            replace hO2 := hO2.up hb
            replace hm2 := World.ownsRow_up hm2 hb
            replace hq2 := World.ownsRow_up hq2 hb
            replace he2 := World.ownsRow_up he2 hb
            replace HBd := below_then HBd hb
            clear hb
            go_wp2_with fail
            go_roundg (n - (k + 1))
            case measure => have := hr.out; omega
            case rel => exact ⟨k + 1, s, by omega, by go_num, rfl, Lib.hid rfl, hok, Lib.hid ⟨_, hO2⟩, HBd⟩
      · go_wp2_with fail
        go_ret
        exact ⟨rfl, HB⟩

theorem siteAccounts_walk (l : List Bun) (a1 : Option Addr) (c1 : Nat) (h1 : l.length ≤ c1) (hc1 : c1 ≤ 9223372036854775807) (m : ByteArray) (es : List Ent) (a2 : Option Addr) (c2 : Nat) (h2 : es.length ≤ c2) (hc2 : c2 ≤ 9223372036854775807) (w : World) (r1 : RowAt encB 4 w.heap.size w a1 l) (hf1 : (a1 = none ∧ l.length = 0 ∧ c1 = 0) ∨ ∃ b off, a1 = some ⟨b, off, none⟩) (r2 : RowAt encE 3 w.heap.size w a2 es) (hf2 : (a2 = none ∧ es.length = 0 ∧ c2 = 0) ∨ ∃ b off, a2 = some ⟨b, off, none⟩) :
    Calls Try.prog 5 #[.slice a1 l.length c1, .string m, .slice a2 es.length c2] w fun e w' => e = .returned (.bool true) ∧ Below w.heap.size w w' :=
  siteAccounts_core l m es a1 a2 c1 c2 h1 h2 hc1 hc2 w r1 r2

end Go.Proofs.Ytpocmijfkjjboaa
