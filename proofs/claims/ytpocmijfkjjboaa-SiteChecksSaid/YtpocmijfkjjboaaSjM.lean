/- SiteChecks' walk: it returns true. -/
import Derived.Test.YtpocmijfkjjboaaSjL
set_option linter.unusedVariables false
namespace Go.Proofs.Ytpocmijfkjjboaa
open Go.ChangeShapes Go.WideShapes Go.ChangeAt Go.RowKit

set_option maxRecDepth 100000 in
set_option maxHeartbeats 4000000 in
theorem siteChecks_core (l : List Bun) (m : ByteArray) (es : List Ent) (nm : ByteArray) (a1 a2 : Option Addr) (c1 c2 : Nat) (h1 : l.length ≤ c1) (h2 : es.length ≤ c2) (hc1 : c1 ≤ 9223372036854775807) (hc2 : c2 ≤ 9223372036854775807) (w : World) (r1 : RowAt encB 4 w.heap.size w a1 l) (r2 : RowAt encE 3 w.heap.size w a2 es) :
    Calls Try.prog 6 #[.slice a1 l.length c1, .string m, .slice a2 es.length c2, .string nm] w fun e w' => e = .returned (.bool true) ∧ Below w.heap.size w w' := by
  obtain ⟨i0, hi, hz0, hz1, hz2⟩ := info_parts infoStr
  have up1 : Hid (∀ u, Below w.heap.size w u → RowAt encB 4 u.heap.size u a1 l) := Lib.hid fun u hb => (r1.bel (Nat.le_refl _) hb).mono hb.size
  have up2 : Hid (∀ u, Below w.heap.size w u → RowAt encE 3 u.heap.size u a2 es) := Lib.hid fun u hb => (r2.bel (Nat.le_refl _) hb).mono hb.size
  have HL := Lib.hid fun u (hb : Below w.heap.size w u) => large_any l m es a1 a2 c1 c2 h1 h2 hc1 hc2 u (up1.out u hb) (up2.out u hb)
  obtain ⟨lg, hlg⟩ : ∃ lg, largeB l m es = lg := ⟨_, rfl⟩
  rw [hlg] at HL
  have HNs : Hid (lg = false → ∀ u, Below w.heap.size w u → Calls Try.prog 9 #[.slice a1 l.length c1, .string m] u fun e w' => NewPost l m u e w') := Lib.hid fun hl u hb => new_any l m (large_no (hlg.trans hl)).2.1 a1 c1 h1 hc1 (Lib.hid (large_no (hlg.trans hl)).1) u (Lib.hid (up1.out u hb))
  have hsm : Hid (lg = false → (newOk l m = true → (st0 l m).ok) ∧ es.length ≤ 25 ∧ ∀ x ∈ es, x.name.size ≤ 60) := Lib.hid fun hl => ⟨fun h => st0_ok l m h (large_no (hlg.trans hl)).1, (large_no (hlg.trans hl)).2.2⟩
  obtain ⟨N, hn1⟩ : ∃ n, l.length = n := ⟨_, rfl⟩
  obtain ⟨n, hn⟩ : ∃ n, es.length = n := ⟨_, rfl⟩
  rw [hn1, hn] at HL
  rw [hn1] at HNs ⊢
  rw [hn] at h2 hsm ⊢
  replace hn := Lib.hid hn
  clear hlg hn1 h1 r1 r2 hc1
  go_enter Try.func6, Try.ntmps6
  go_wp2_with fail
  refine (awake_any _).mono ?_
  rintro e w1 ⟨rfl, HB⟩
  go_wp2_with fail
  refine (HL.out _ HB).mono ?_
  rintro e w2 ⟨rfl, hb2⟩
  replace HB := below_then HB hb2
  clear hb2 HL
  cases lg
  rotate_left
  · go_wp2_with fail
    go_ret
    exact ⟨rfl, HB⟩
  replace HNs := Lib.hid (HNs.out rfl)
  replace hsm := Lib.hid (hsm.out rfl)
  have hn25 : n ≤ 25 := hsm.out.2.1
  by_cases hz6 : 60 < nm.size
  · go_wp2_with fail
    go_ret
    exact ⟨rfl, HB⟩
  go_wp2_with fail
  refine (HNs.out _ HB).mono ?_
  rintro e w3 ⟨hbad, hgood, hb3⟩
  have HB3 := below_then HB hb3
  replace hz6 : Hid (nm.size ≤ 60) := Lib.hid (by omega)
  clear HNs
  obtain ⟨nk, hnk⟩ : ∃ nk, newOk l m = nk := ⟨_, rfl⟩
  rw [hnk] at hbad hgood hsm
  clear hnk
  cases nk
  · have hb0 := hbad rfl
    subst hb0
    clear hgood hbad hsm
    go_wp2_with fail
    go_ret
    exact ⟨rfl, HB3⟩
  · obtain ⟨g, p, rfl, hs1, hfp⟩ := hgood rfl
    clear hgood hbad
    have hok0 : Hid ((st0 l m).ok ∧ (st0 l m).kept.length ≤ 0 ∧ (st0 l m).open_.Nodup) := Lib.hid ⟨hsm.out.1 rfl, Nat.le_refl _, List.nodup_nil⟩
    replace hsm := Lib.hid hsm.out.2
    have hO3 : Hid (OpW w.heap.size w3 g (st0 l m) (.slice none 0 0) (st0 l m).open_) := Lib.hid (OpW.start hs1 fun b hb => Nat.le_trans HB.size (hfp b hb))
    have hp0 : (st0 l m).poured = false := rfl
    have hd0 : lastDay (st0 l m).kept = 0 := rfl
    obtain ⟨s0, hs0⟩ : ∃ s0, st0 l m = s0 := ⟨_, rfl⟩
    rw [hs0] at hO3 hok0 hp0 hd0
    replace hp0 := Lib.hid hp0
    replace hd0 := Lib.hid hd0
    clear hs0 hs1 hfp hb3 HB
    go_wp2_with fail
    go_loopg [48, 11, 12, 13] n (fun g1 i o d b wr => ∃ (k : Nat) (s : St) (vo : Value), k ≤ n ∧ i = .int .i64 (k : Int) ∧ vo = o ∧ d = .int .i64 (lastDay s.kept) ∧ b = .bool s.poured ∧ Hid (g1 = n - k) ∧ Hid (s.ok ∧ s.kept.length ≤ k ∧ s.open_.Nodup) ∧ Hid (OpW w.heap.size wr g s vo s.open_) ∧ Below w.heap.size w wr)
    case atStart => exact ⟨0, s0, _, Nat.zero_le _, rfl, rfl, by rw [hd0.out], by rw [hp0.out], Lib.hid rfl, hok0, hO3, HB3⟩
    case round =>
      clear hO3 HB3 hok0 hp0 hd0
      obtain ⟨k, s, vo, hk, rfl, rfl, rfl, rfl, hr, hok, hO, HB⟩ := hrel
      by_cases hlt : k < n
      · have hkl : Hid (k < es.length) := Lib.hid (by rw [hn.out]; exact hlt)
        obtain ⟨b, off, rfl, e0, e1, e2, hb⟩ := (up2.out wr HB).ent k hkl.out
        have hxz := Lib.hid (hsm.out.2 _ (List.getElem_mem hkl.out))
        obtain ⟨x, hx⟩ : ∃ x, es[k]'hkl.out = x := ⟨_, rfl⟩
        rw [hx] at e0 e1 e2 hxz
        clear hx hb
        obtain ⟨xd, xk, xn⟩ := x
        dsimp only at e0 e1 e2 hxz
        go_upto_region 13 with fail
        generalize hWW : World.alloc _ _ = W1
        have kx : At W1 wr.heap.size 35 #[.int .i64 xd, .int .i64 xk, .string xn] := by rw [← hWW]; exact At.new' rfl
        have hbW : Below wr.heap.size wr W1 := by rw [← hWW]; exact below_al (Below.refl _ _) _
        clear hWW e0 e1 e2
        obtain ⟨x0, x1, x2⟩ := kx.three
        have HDo := Lib.hid (op_do_at hO.out hbW HB.size hok.out.1 xd xk xn hxz.out kx (Nat.le_refl _) trivial)
        replace HB := below_then HB hbW
        clear hO hbW kx
        go_wp2_with fail
        refine HDo.out.mono ?_
        rintro e wd ⟨rfl, hv, kx, hlt2, hbd⟩
        replace hv := Lib.hid hv
        replace hlt2 := Lib.hid hlt2
        have HBd := HB.trans hbd
        clear x0 x1 x2 HB HDo hbd
        obtain ⟨r, hr9⟩ : ∃ r, (doS s ⟨xd, xk, xn⟩).1 = r := ⟨_, rfl⟩
        rw [hr9]
        by_cases r0 : r = 0
        · subst r0
          obtain ⟨hpf, hp5, -⟩ := doS_pour hr9
          obtain ⟨ho2, hnd, hk4⟩ := doS_open hok.out.2.2 hr9
          have hdy := Lib.hid (doS_day hr9)
          have hkl2 := congrArg List.length (doS_kept hr9)
          rw [List.length_append] at hkl2
          have hok2 := Lib.hid (And.intro (doS_ok s hok.out.1 ⟨xd, xk, xn⟩ hxz.out) (show (doS s ⟨xd, xk, xn⟩).2.kept.length ≤ k + 1 by have := hok.out.2.1; simp at hkl2; omega))
          obtain ⟨s2, hs29⟩ : ∃ s2, (doS s ⟨xd, xk, xn⟩).2 = s2 := ⟨_, rfl⟩
          rw [hs29] at hv hp5 ho2 hnd hok2 hdy
          dsimp only at ho2 hp5 hk4 hdy
          have hnd2 := Lib.hid hnd
          have ho7 : Hid (s.open_.length ≤ 1000) := Lib.hid (by have := hok.out.1.openN; have := hok.out.1.keptN; omega)
          have hsp := Lib.hid hpf
          obtain ⟨x0, x1, x2⟩ := kx.three
          clear hs29 hr9 hkl2 hnd hpf
          by_cases k3 : xk = 3
          · rw [if_pos k3] at ho2
            rw [decide_eq_false (by omega)] at hp5
            replace ho2 := Lib.hid ho2
            replace hp5 := Lib.hid hp5
            have b3 : (xk == 3) = true := by simp; omega
            have b4 : (xk == 4) = false := by simp; omega
            have b5 : (xk == 5) = false := by simp; omega
            clear k3 hk4
            go_wp2_with (at_builtin; refine wpList_append_own_at _ rfl _ _ 38 rfl w.heap.size 9 i0 (.string ⟨#[]⟩) 1 16 Try.underlying38 hi hz0 hz1 hz2 rfl (by decide) _ _ _ rfl (World.ownsRow.alloc hv.out.row _) ⟨wd.heap.size, 0, none⟩ 1 1 [.string xn] rfl rfl (cell_one_new _ _ _) (by intro u hu; simp at hu; subst hu; rfl) (by have := ho7.out; unfold maxLen; omega) (by have := ho7.out; omega) (by have := HBd.size; simp; omega) ?_)
            intro v' w1 ho1 hg1 hnil hloc
            have hg2 : wd.grownBy w1 vo.ownBlock := (World.grownBy_alloc _ _ _).trans hg1
            have hb1 : Below w.heap.size wd w1 := hv.out.below HBd.size hg2
            have hv2 : Hid (OpW w.heap.size w1 g s2 v' s2.open_) := Lib.hid (by
              have e : s2.open_.length = s.open_.length + 1 := by rw [ho2.out]; simp
              refine (hv.out.up (show Below wd.heap.size wd (wd.alloc _) from below_al (Below.refl _ _) _)).next hg1 (by rw [e, ho2.out, List.flatMap_append, List.flatMap_singleton]; exact ho1) (by simpa using hloc))
            replace HBd := HBd.trans hb1
            clear hg1 hg2 hb1 hnil hloc ho1 hv kx
            go_wp2_with fail
            go_roundg (n - (k + 1))
            case measure => have := hr.out; omega
            case rel => exact ⟨k + 1, s2, v', by omega, by go_num, rfl, by rw [hdy.out], by rw [hp5.out, hsp.out], Lib.hid rfl, Lib.hid ⟨hok2.out.1, hok2.out.2, hnd2.out⟩, hv2, HBd⟩
          rw [if_neg k3] at ho2
          by_cases k4 : xk = 4
          · rw [if_pos k4] at ho2
            rw [decide_eq_false (by omega)] at hp5
            replace ho2 := Lib.hid ho2
            replace hp5 := Lib.hid hp5
            have hpos := hk4 k4
            have b3 : (xk == 3) = false := by simp; omega
            have b4 : (xk == 4) = true := by simp; omega
            have b5 : (xk == 5) = false := by simp; omega
            obtain ⟨q, cq, rfl⟩ : ∃ q cq, vo = .slice (some ⟨q, 0, none⟩) s.open_.length cq := by
              obtain ⟨_, ⟨q1, q2⟩ | ⟨q, cap, cur, q1, _⟩⟩ := hv.out.row
              · omega
              · exact ⟨q, cap, q1⟩
            have hqX : wr.heap.size ≠ q := fun e => by have := hlt2.out q rfl; omega
            have HD := Lib.hid (delf_any s.open_ xn wr.heap.size q cq w.heap.size wd hv.out.row kx.lt hqX x2)
            clear k3 k4 hk4 hpos
            go_wp2_with fail
            refine HD.out.mono ?_
            rintro e w1 ⟨rfl, hrow, hg1⟩
            have hb1 : Below w.heap.size wd w1 := hv.out.below HBd.size hg1
            have hv2 : Hid (OpW w.heap.size w1 g s2 (.slice (some ⟨q, 0, none⟩) s2.open_.length cq) s2.open_) := Lib.hid (hv.out.next hg1 (by rw [ho2.out]; exact hrow) (.inl rfl))
            have hln := Lib.hid (congrArg List.length ho2.out)
            rw [← hln.out]
            replace HBd := HBd.trans hb1
            clear hg1 hb1 hrow hv kx HD x0 x1 x2
            go_wp2_with fail
            go_roundg (n - (k + 1))
            case measure => have := hr.out; omega
            case rel => exact ⟨k + 1, s2, _, by omega, by go_num, rfl, by rw [hdy.out], by rw [hp5.out, hsp.out], Lib.hid rfl, Lib.hid ⟨hok2.out.1, hok2.out.2, hnd2.out⟩, hv2, HBd⟩
          rw [if_neg k4] at ho2
          have hv2 : Hid (OpW w.heap.size wd g s2 vo s2.open_) := Lib.hid (by rw [ho2]; exact hv.out)
          clear ho2 hv hk4
          by_cases k5 : xk = 5
          · rw [decide_eq_true k5] at hp5
            replace hp5 := Lib.hid hp5
            have b3 : (xk == 3) = false := by simp; omega
            have b4 : (xk == 4) = false := by simp; omega
            have b5 : (xk == 5) = true := by simp; omega
            clear k3 k4 k5 kx
            go_wp2_with fail
            go_roundg (n - (k + 1))
            case measure => have := hr.out; omega
            case rel => exact ⟨k + 1, s2, vo, by omega, by go_num, rfl, by rw [hdy.out], by rw [hp5.out], Lib.hid rfl, Lib.hid ⟨hok2.out.1, hok2.out.2, hnd2.out⟩, hv2, HBd⟩
          · rw [decide_eq_false k5] at hp5
            replace hp5 := Lib.hid hp5
            have b3 : (xk == 3) = false := by simp; omega
            have b4 : (xk == 4) = false := by simp; omega
            have b5 : (xk == 5) = false := by simp; omega
            clear k3 k4 k5 kx
            go_wp2_with fail
            go_roundg (n - (k + 1))
            case measure => have := hr.out; omega
            case rel => exact ⟨k + 1, s2, vo, by omega, by go_num, rfl, by rw [hdy.out], by rw [hp5.out, hsp.out], Lib.hid rfl, Lib.hid ⟨hok2.out.1, hok2.out.2, hnd2.out⟩, hv2, HBd⟩
        · have r1 : (r == 0) = false := by simpa using r0
          have hsame := doS_err (s := s) (x := ⟨xd, xk, xn⟩) (by rw [hr9]; exact r0)
          rw [hsame] at hv
          clear hsame hr9 r0 kx
          go_wp2_with fail
          go_roundg (n - (k + 1))
          case measure => have := hr.out; omega
          case rel => exact ⟨k + 1, s, vo, by omega, by go_num, rfl, rfl, rfl, Lib.hid rfl, Lib.hid ⟨hok.out.1, by have := hok.out.2.1; omega, hok.out.2.2⟩, hv, HBd⟩
      · obtain ⟨ao, co, rfl⟩ := own_slice hO.out.row
        have HOp := Lib.hid fun u (hb : Below wr.heap.size wr u) => op_open (hO.out.up hb) hok.out.1
        have HRe := Lib.hid fun u (hb : Below wr.heap.size wr u) => op_ready (hO.out.up hb) hok.out.1
        have ho7 : Hid (s.open_.length ≤ 1000000) := Lib.hid (by have := hok.out.1.openN; have := hok.out.1.keptN; omega)
        have hrdo := Lib.hid (@ready_open s)
        obtain ⟨oo, hoo⟩ : ∃ oo, s.open_.length = oo := ⟨_, rfl⟩
        obtain ⟨rd, hrd⟩ : ∃ rd, readyS s = rd := ⟨_, rfl⟩
        obtain ⟨dd, hdd⟩ : ∃ dd, lastDay s.kept = dd := ⟨_, rfl⟩
        obtain ⟨pb, hpb⟩ : ∃ pb, s.poured = pb := ⟨_, rfl⟩
        rw [hoo] at hO hrdo ⊢
        rw [hrd] at HRe hrdo
        rw [hdd, hpb]
        clear hrd
        replace hoo := Lib.hid hoo
        replace hdd := Lib.hid hdd
        replace hpb := Lib.hid hpb
        go_upto_region 23 with fail
        go_cut [88] (fun v wc => v = .bool false ∧ Below wr.heap.size wr wc)
        case first =>
          go_wp2_with fail
          refine (HOp.out _ (Below.refl _ _)).mono ?_
          rintro e u1 ⟨⟨y, rfl, hy⟩, hb1⟩
          obtain ⟨ay, cy, rfl, hy1⟩ := hy
          have hy2 : Hid (IsS s.open_ (.slice ay s.open_.length cy) u1) := Lib.hid ⟨ay, cy, rfl, hy1⟩
          rw [hoo.out] at hy2 ⊢
          go_wp2_with fail
          refine (eqvS_any s.open_ _ _ _ ho7.out hy2.out (hO.out.up hb1).isS).mono ?_
          rintro e u2 ⟨rfl, hb2⟩
          replace hb1 := below_then hb1 hb2
          clear hy1 hy2 hb2 HOp
          by_cases o0 : oo = 0
          · subst o0
            go_wp2_with fail
            go_meet
            exact ⟨rfl, hb1⟩
          · have hrd := hrdo.out (by omega)
            subst hrd
            have o1 : 0 < oo := by omega
            clear o0
            go_wp2_with fail
            refine (HRe.out _ hb1).mono ?_
            rintro e u3 ⟨rfl, hb3⟩
            replace hb1 := below_then hb1 hb3
            clear hb3
            go_wp2_with fail
            go_meet
            exact ⟨rfl, hb1⟩
        case rest =>
          obtain ⟨rfl, hbc⟩ := hcut
          have hv := Lib.hid (hO.out.up hbc)
          have HBu := below_then HB hbc
          clear hbc hO HOp HRe hrdo
          go_wp2_with fail
          refine (op_do hv.out (by have := HBu.size; have := HB.size; omega) hok.out.1 dd 3 nm hz6.out).mono ?_
          rintro e wd ⟨rfl, hv1, hbd⟩
          replace HBu := HBu.trans hbd
          obtain ⟨f, s1, hf⟩ : ∃ f s1, doS s ⟨dd, 3, nm⟩ = (f, s1) := ⟨_, _, rfl⟩
          have hok1 := doS_ok s hok.out.1 ⟨dd, 3, nm⟩ hz6.out
          rw [hf] at hv1 hok1 ⊢
          dsimp only at hv1 hok1 ⊢
          replace hv1 := Lib.hid hv1
          replace hok1 := Lib.hid hok1
          clear hv hbd
          by_cases f1 : f = 1
          · subst f1
            clear hf
            go_wp2_with fail
            go_ret
            exact ⟨rfl, HBu⟩
          have hce := Lib.hid (checks_end s nm (by have := hok.out.2.1; omega) f s1 (by rw [hdd.out]; exact hf) f1)
          rw [hdd.out, hpb.out] at hce
          have g1 : (f == 1) = false := by simpa using f1
          clear hf f1
          cases pb
          rotate_left
          · have := hce.out.1 (by simp)
            subst this
            go_wp2_with fail
            go_ret
            exact ⟨rfl, HBu⟩
          have hct := Lib.hid (op_contains hv1.out hoo.out ho7.out nm)
          obtain ⟨ib, hib⟩ : ∃ ib, inB nm s.open_ = ib := ⟨_, rfl⟩
          rw [hib] at hct hce
          clear hib
          go_wp2_with fail
          refine hct.out.mono ?_
          rintro e wn ⟨rfl, rfl⟩
          clear hct
          cases ib
          rotate_left
          · have := hce.out.2.1 (by simp) (by simp)
            subst this
            go_wp2_with fail
            go_ret
            exact ⟨rfl, HBu⟩
          obtain ⟨hf0, hr1, hd1, s2, hd2, ho2, hd3⟩ := hce.out.2.2 (by simp) (by simp)
          subst hf0
          replace hd1 := Lib.hid hd1
          replace hd2 := Lib.hid hd2
          replace hd3 := Lib.hid hd3
          replace ho2 := Lib.hid ho2
          have HR1 := Lib.hid (op_ready hv1.out hok1.out)
          rw [hr1] at HR1
          clear hce hr1
          go_wp2_with fail
          refine HR1.out.mono ?_
          rintro e wn ⟨rfl, hbn⟩
          replace hv1 := Lib.hid (hv1.out.up hbn)
          replace HBu := below_then HBu hbn
          clear hbn HR1
          have HD1 := Lib.hid (op_do hv1.out HBu.size hok1.out dd 3 nm hz6.out)
          rw [hd1.out] at HD1
          go_wp2_with fail
          refine HD1.out.mono ?_
          rintro e wo ⟨rfl, hv2, hbd⟩
          replace hv2 := Lib.hid hv2
          replace HBu := HBu.trans hbd
          clear hbd HD1 hv1
          have HD1 := Lib.hid (op_do hv2.out HBu.size hok1.out dd 4 nm hz6.out)
          have hok2 := Lib.hid (doS_ok s1 hok1.out ⟨dd, 4, nm⟩ hz6.out)
          rw [hd2.out] at HD1 hok2
          go_wp2_with fail
          refine HD1.out.mono ?_
          rintro e wp ⟨rfl, hv3, hbd⟩
          replace hv3 := Lib.hid hv3
          replace HBu := HBu.trans hbd
          clear hbd HD1 hv2
          have HO1 := Lib.hid (op_open hv3.out hok2.out)
          rw [ho2.out] at HO1
          go_wp2_with fail
          refine HO1.out.mono ?_
          rintro e wq ⟨⟨y, rfl, hy⟩, hbn⟩
          obtain ⟨ay, cy, rfl, hy1⟩ := hy
          have hy2 : Hid (IsS s.open_ (.slice ay s.open_.length cy) wq) := Lib.hid ⟨ay, cy, rfl, hy1⟩
          rw [hoo.out] at hy2 ⊢
          replace hv3 := Lib.hid (hv3.out.up hbn)
          replace HBu := below_then HBu hbn
          clear hbn HO1 hy1
          go_wp2_with fail
          refine (eqvS_any s.open_ _ _ _ ho7.out hy2.out hv3.out.isS).mono ?_
          rintro e ws ⟨rfl, hbn⟩
          replace hv3 := Lib.hid (hv3.out.up hbn)
          replace HBu := below_then HBu hbn
          clear hbn hy2
          have HD1 := Lib.hid (op_do hv3.out HBu.size hok2.out dd 4 nm hz6.out)
          rw [hd3.out] at HD1
          go_wp2_with fail
          refine HD1.out.mono ?_
          rintro e wt ⟨rfl, hv4, hbd⟩
          replace HBu := HBu.trans hbd
          clear hbd HD1 hv3 hv4
          go_wp2_with fail
          go_ret
          exact ⟨rfl, HBu⟩

theorem siteChecks_walk (l : List Bun) (a1 : Option Addr) (c1 : Nat) (h1 : l.length ≤ c1) (hc1 : c1 ≤ 9223372036854775807) (m : ByteArray) (es : List Ent) (a2 : Option Addr) (c2 : Nat) (h2 : es.length ≤ c2) (hc2 : c2 ≤ 9223372036854775807) (nm : ByteArray) (w : World) (r1 : RowAt encB 4 w.heap.size w a1 l) (hf1 : (a1 = none ∧ l.length = 0 ∧ c1 = 0) ∨ ∃ b off, a1 = some ⟨b, off, none⟩) (r2 : RowAt encE 3 w.heap.size w a2 es) (hf2 : (a2 = none ∧ es.length = 0 ∧ c2 = 0) ∨ ∃ b off, a2 = some ⟨b, off, none⟩) :
    Calls Try.prog 6 #[.slice a1 l.length c1, .string m, .slice a2 es.length c2, .string nm] w fun e w' => e = .returned (.bool true) ∧ Below w.heap.size w w' :=
  siteChecks_core l m es nm a1 a2 c1 c2 h1 h2 hc1 hc2 w r1 r2

end Go.Proofs.Ytpocmijfkjjboaa
