/- The yard's example holds. site: Replay, and the reference's. journal: slices of entries; clones by value; what Good and Recover answer. What the walk of TopCrashed reads: slices of entries, what is known of loads and states. -/
import Derived.Test.YtcokobdffbhpeaaGreatDoorCJ28
import Derived.Test.YtcokobdffbhpeaaGreatDoorCJ29
import Derived.Test.YtcokobdffbhpeaaGreatDoorCJ27
import Derived.Test.YtcokobdffbhpeaaGreatDoorCJ12
import Derived.Test.YtcokobdffbhpeaaGreatDoorCJ21
import Derived.Test.YtcokobdffbhpeaaGreatDoorCJ18
set_option linter.unusedVariables false
namespace Go.Proofs.YtcokobdffbhpeaaGreatDoor
open Go.ChangeShapes Go.WideShapes Go.ChangeAt Go.RowKit
deriving instance DecidableEq for Bun
def yB : List Br := [⟨⟨#[97]⟩, 12, 5, 0, [1000]⟩]
def yU : List Bun := [⟨⟨#[116, 49]⟩, ⟨#[97]⟩, 2, 1776⟩, ⟨⟨#[116, 50]⟩, ⟨#[97]⟩, 2, 1776⟩, ⟨⟨#[116, 51]⟩, ⟨#[97]⟩, 1, 888⟩]
theorem y_make : makeE 2000 yB = (yU, 0) := by decide +kernel
theorem y_giv : givE yU 4000 = 0 := by decide +kernel
theorem y_gre : (greedG (massN yU) 4000 (ordN (massN yU) 3)).1.length = 2 := by decide +kernel
theorem y_new : newOk yU mB = true := by decide +kernel
theorem y_acc : (st0 yU mB).at_.count 0 = 3 ∧ (st0 yU mB).at_.count 1 = 0 ∧ (st0 yU mB).at_.count 2 = 0 := by decide +kernel
theorem y_do1 : (doS (st0 yU mB) ⟨0, 5, mB⟩).1 = 24 := by decide +kernel
theorem y_do2 : (doS (doS (st0 yU mB) ⟨0, 5, mB⟩).2 ⟨0, 1, ⟨#[116, 49]⟩⟩).1 = 0 := by decide +kernel
theorem y_short : ∀ x ∈ yU, x.tag.size ≤ 60 ∧ x.mark.size ≤ 60 := by
  intro x hx
  simp [yU] at hx
  rcases hx with rfl | rfl | rfl <;> decide
set_option maxRecDepth 100000 in
set_option maxHeartbeats 4000000 in
theorem yawake_any (w : World) (ht : Tab w) : Calls Tryz.prog 4 #[] w fun e w' => e = .returned (.bool true) ∧ Below w.heap.size w w' := by
  have ht0 := Lib.hid ht
  clear ht
  go_enter Tryz.func4, Tryz.ntmps4
  go_wp2_with fail
  generalize hWW : World.alloc (World.alloc w _) _ = WW
  have kd : At WW w.heap.size 3 #[.int .i64 1000] := by rw [← hWW]; repeat (first | (with_reducible apply At.new'; (focus (simp; done))) | with_reducible apply At.al | with_reducible apply At.drw | with_reducible apply At.dr)
  have kb : At WW (w.heap.size + 1) 51 #[.string ⟨#[97]⟩, .int .i64 12, .int .i64 5, .int .i64 0, .slice (some ⟨w.heap.size, 0, none⟩) 1 1] := by rw [← hWW]; repeat (first | (with_reducible apply At.new'; (focus (simp; done))) | with_reducible apply At.al | with_reducible apply At.drw | with_reducible apply At.dr)
  have HB : Below w.heap.size w WW := by rw [← hWW]; exact below_al (below_al (Below.refl _ _) _) _
  clear hWW
  have hV : BarsV WW yB [.slice (some ⟨w.heap.size, 0, none⟩) 1 1] (some ⟨w.heap.size + 1, 0, none⟩) 1 := by
    refine ⟨by decide, by decide, ?_, rfl, ?_, ?_⟩
    · intro k hk
      have hk0 : k = 0 := by simp [yB] at hk; exact hk
      subst hk0
      refine ⟨w.heap.size + 1, 0, rfl, kb.lt, fun j u hu => ?_⟩
      have hu2 : (encQ (⟨⟨#[97]⟩, 12, 5, 0, [1000]⟩, .slice (some ⟨w.heap.size, 0, none⟩) 1 1))[j]? = some u := hu
      rw [show 0 + 0 * 5 + j = j by omega, kb.c]
      simpa [encQ] using hu2
    · intro k h1 h2
      have hk0 : k = 0 := by simp [yB] at h1; exact h1
      subst hk0
      exact isI_new (l := [1000]) kd (by simp)
    · intro b hb
      simp [yB] at hb
      subst hb
      decide
  have HM := Lib.hid (make_any yB _ _ 1 2000 WW hV (ht0.out.bel HB))
  rw [y_make, show yB.length = 1 from rfl] at HM
  clear kd kb hV ht0
  refine HM.out.mono ?_
  rintro e w1 ⟨⟨v, rfl, a, c, rfl, h2, h3, h4⟩, hb⟩
  have h4' := Lib.hid h4
  rw [show yU.length = 3 from rfl] at h2 ⊢
  replace HB := below_then HB hb
  clear hb HM h4
  have HG := Lib.hid (greedy_any yU a c 4000 h2 h3 (by decide) (Lib.hid y_short) w1 h4')
  rw [y_giv, show yU.length = 3 from rfl] at HG
  go_wp2_with fail
  refine HG.out.mono ?_
  rintro e w2 ⟨-, hg, hb⟩
  obtain ⟨vo, vm, vs, rfl, hGr⟩ := hg (by first | rfl | trivial)
  obtain ⟨ao, co, rfl⟩ := own_slice hGr.o
  have hvl : vs.length = 2 := hGr.n.trans y_gre
  rw [hvl]
  have hrow2 : Hid (RowAt encB 4 w2.heap.size w2 a yU) := Lib.hid ((h4'.out.bel (Nat.le_refl _) hb).mono hb.size)
  replace HB := below_then HB hb
  clear hb HG hg hGr hvl h4'
  have HN := Lib.hid (new_any yU mB (by decide) a c h2 h3 (Lib.hid y_short) w2 hrow2)
  rw [show yU.length = 3 from rfl] at HN
  go_wp2_with fail
  refine HN.out.mono ?_
  rintro e w3 ⟨-, hgood, hb⟩
  obtain ⟨g, p, rfl, hs1, hfp⟩ := hgood y_new
  have hok0 := Lib.hid (st0_ok yU mB y_new y_short)
  have hL0 : Hid (Lone (fun x => x < w2.heap.size) w3 g (st0 yU mB)) := Lib.hid ⟨p, hs1, fun x hx h => by have := hfp x hx; omega⟩
  have HA := Lib.hid (account_any (st0 yU mB) hok0.out g p w3 hs1)
  rw [y_acc.1, y_acc.2.1, y_acc.2.2] at HA
  have hw23 := Lib.hid hb.size
  have HBH := Lib.hid HB
  replace HB := below_then HB hb
  clear hgood hs1 hfp hb HN hrow2
  go_wp2_with fail
  refine HA.out.mono ?_
  rintro e w4 ⟨rfl, hb⟩
  replace hL0 := Lib.hid (hL0.out.up hb)
  replace HB := below_then HB hb
  have hw24 := Lib.hid (Nat.le_trans hw23.out hb.size)
  clear hb HA
  have HD1 := Lib.hid (lone_do hL0.out (fun x hx => Nat.lt_of_lt_of_le hx hw24.out) hok0.out 0 5 mB (by decide))
  rw [y_do1] at HD1
  have hok1 := Lib.hid (doS_ok (st0 yU mB) hok0.out ⟨0, 5, mB⟩ (by decide))
  have hdo2 := Lib.hid y_do2
  obtain ⟨S1, hS1⟩ : ∃ S1, (doS (st0 yU mB) ⟨0, 5, mB⟩).2 = S1 := ⟨_, rfl⟩
  rw [hS1] at HD1 hok1 hdo2
  clear hS1 hL0
  rw [show mB = ⟨#[109]⟩ from rfl] at HD1
  go_wp2_with fail
  refine HD1.out.mono ?_
  rintro e w5 ⟨rfl, hL5, hK5⟩
  have hb5 : Below w2.heap.size w4 w5 := hK5.below (fun x hx => hx)
  have hw25 := Lib.hid (Nat.le_trans hw24.out hK5.size)
  have HB5 : Below w.heap.size w w5 := HB.trans (hb5.mono HBH.out.size)
  have HD2 := Lib.hid (lone_do hL5 (fun x hx => Nat.lt_of_lt_of_le hx hw25.out) hok1.out 0 1 ⟨#[116, 49]⟩ (by decide))
  rw [hdo2.out] at HD2
  clear HD1 hL5 hK5 hb5 HB
  go_wp2_with fail
  refine HD2.out.mono ?_
  rintro e w6 ⟨rfl, hL6, hK6⟩
  have hb6 : Below w2.heap.size w5 w6 := hK6.below (fun x hx => hx)
  have HB6 : Below w.heap.size w w6 := HB5.trans (hb6.mono HBH.out.size)
  clear HD2 hL6 hK6 hb6 HB5
  go_wp2_with fail
  go_ret
  exact ⟨rfl, HB6⟩
end Go.Proofs.YtcokobdffbhpeaaGreatDoor
set_option linter.unusedVariables false
namespace Go.Proofs.YtcokobdffbhpeaaGreatDoor
open Go.ChangeShapes Go.WideShapes Go.ChangeAt Go.RowKit
set_option maxRecDepth 100000 in
set_option maxHeartbeats 2000000 in
theorem replay_any (l : List Bun) (m : ByteArray) (hm : m.size ≤ 60) (ao : Option Addr) (cap : Nat) (hl : l.length ≤ cap) (hc : cap ≤ 9223372036854775807) (hs : Hid (∀ x ∈ l, x.tag.size ≤ 60 ∧ x.mark.size ≤ 60)) (b : List UInt8) (v : Value) (hb0 : b.length ≤ 1000000) (w : World) (he : Env w) (ha : Hid (RowAt encB 4 w.heap.size w ao l)) (hv : IsB b v w) :
    Calls Tryz.prog 11 #[.slice ao l.length cap, .string m, v] w fun e w' => RepPost l m b w e w' := by
  obtain ⟨a, n, c, rfl, -, -⟩ := hv.shape
  have he0 := Lib.hid he
  have hv0 := Lib.hid hv
  have hbl := Lib.hid hb0
  have HN := Lib.hid (new_any l m hm ao cap hl hc hs w ha)
  have hok0 : Hid (newOk l m = true → (st0 l m).ok) := Lib.hid fun h => st0_ok l m h hs.out
  have hnm := Lib.hid (decL_names b)
  have hdl := Lib.hid (decL_few b)
  have hEd := Lib.hid (And.intro (@repE_new l m b) (And.intro (@repE_dec l m b) (@repE_play l m b)))
  have hSd : Hid (repS l m b = (playF (decL b) (st0 l m)).2) := Lib.hid rfl
  obtain ⟨N1, hN1⟩ : ∃ N1, l.length = N1 := ⟨_, rfl⟩
  rw [hN1] at HN hl ⊢
  obtain ⟨E, hE⟩ : ∃ E, decE b = E := ⟨_, rfl⟩
  have HD := Lib.hid (fun (w1 : World) (HB : Below w.heap.size w w1) => decode_v b _ (.inl hbl.out) w1 (he0.out.bel HB) (hv0.out.up HB))
  rw [hE] at HD hEd
  obtain ⟨nk, hnk⟩ : ∃ nk, newOk l m = nk := ⟨_, rfl⟩
  have HN2 : Hid (Calls Tryz.prog 18 #[.slice ao N1 cap, .string m] w fun e w' => (nk = false → e = .returned (.tuple #[.pointer none, .int .i64 1])) ∧ (nk = true → ∃ g p, e = .returned (.tuple #[.pointer (some ⟨g, 0, none⟩), .int .i64 0]) ∧ SiteW w' g (st0 l m) p ∧ ∀ b, some b ∈ p.fp g → w.heap.size ≤ b) ∧ Below w.heap.size w w') := Lib.hid (by
    have := HN.out
    unfold NewPost at this
    rw [hnk] at this
    exact this)
  obtain ⟨LL, hLL⟩ : ∃ LL, decL b = LL := ⟨_, rfl⟩
  rw [hLL] at HD hEd hSd hnm hdl
  obtain ⟨S0, hS0⟩ : ∃ S0, st0 l m = S0 := ⟨_, rfl⟩
  rw [hS0] at HN2 hEd hSd hok0
  rw [hnk] at hok0 hEd
  unfold RepPost
  obtain ⟨RE, hRE⟩ : ∃ RE, repE l m b = RE := ⟨_, rfl⟩
  obtain ⟨RS, hRS⟩ : ∃ RS, repS l m b = RS := ⟨_, rfl⟩
  rw [hRE, hRS]
  rw [hRE] at hEd
  rw [hRS] at hSd
  clear HN hs hl hc hN1 ha hv he hb0 hE hnk hLL hS0 hRE hRS
  go_enter Tryz.func11, Tryz.ntmps11
  go_wp2_with fail
  refine HN2.out.mono ?_
  rintro e w1 ⟨hbad, hgood, HB⟩
  clear HN2
  rcases nk with _ | _
  · obtain rfl := hbad rfl
    have h1 : Hid (RE = 1) := Lib.hid (hEd.out.1 (by first | rfl | trivial))
    clear hgood hbad hEd
    go_wp2_with fail
    exact bodyPost_ret (v := .tuple #[.pointer none, .int .i64 1]) (by simp [results, Tryz.results11, go_sem]) rfl ⟨fun _ => by rw [h1.out], (fun h => by rw [h1.out] at h; cases h), HB⟩
  obtain ⟨g, p, rfl, hs1, hfp⟩ := hgood rfl
  clear hgood hbad
  replace hs1 := Lib.hid hs1
  replace hfp := Lib.hid hfp
  replace hok0 := Lib.hid (hok0.out (by first | rfl | trivial))
  have HD1 := Lib.hid (HD.out w1 HB)
  clear HD
  go_wp2_with fail
  refine HD1.out.mono ?_
  rintro e w2 ⟨⟨y, rfl, ho⟩, hb2⟩
  clear HD1
  by_cases hE : E = 0
  rotate_left
  · have h1 : Hid (RE = E) := Lib.hid (hEd.out.2.1 (by first | rfl | trivial) hE)
    have hc : (E != 0) = true := by simpa using hE
    have hE2 := Lib.hid hE
    have HB2 := below_then HB hb2
    clear hEd hE
    go_wp2_with fail
    exact bodyPost_ret (v := .tuple #[.pointer none, .int .i64 E]) (by simp [results, Tryz.results11, go_sem]) rfl ⟨fun _ => by rw [h1.out], (fun h => by rw [h1.out] at h; exact absurd h hE2.out), HB2⟩
  subst hE
  have hpl : Hid (RE = (playF LL S0).1) := Lib.hid (hEd.out.2.2 (by first | rfl | trivial) (by first | rfl | trivial))
  have HB2 := below_then HB hb2
  obtain ⟨Av, hAv⟩ : ∃ Av : Nat → Prop, Av = (fun x => x < w.heap.size ∨ y.ownBlock = some x) := ⟨_, rfl⟩
  have hav : Hid (∀ x, Av x → x < w2.heap.size) := Lib.hid (by
    rw [hAv]
    rintro x (h | h)
    · exact Nat.lt_of_lt_of_le h HB2.size
    · exact (own_lt ho.out h).1)
  have havw : Hid (∀ x, x < w.heap.size → Av x) := Lib.hid (by rw [hAv]; exact fun x h => .inl h)
  have havy : Hid (∀ x, y.ownBlock = some x → Av x) := Lib.hid (by rw [hAv]; exact fun x h => .inr h)
  have hL0 : Hid (Lone Av w2 g S0) := Lib.hid ⟨p, hs1.out.bel hb2, fun x hx hA => by
    rw [hAv] at hA
    rcases hA with h | h
    · have := hfp.out x hx
      omega
    · have h1 := hs1.out.lt hx
      have h2 := (own_lt ho.out h).2
      omega⟩
  have hrow : Hid (Row w2 39 3 encE y LL) := Lib.hid (own_weak ho.out (Nat.zero_le _))
  obtain ⟨ya, yc, rfl⟩ := own_slice ho.out
  obtain ⟨N, hN⟩ : ∃ N, LL.length = N := ⟨_, rfl⟩
  rw [hN] at hrow havy ⊢
  have hN9 : N ≤ 1000 := by rw [← hN]; exact hdl.out
  replace hN := Lib.hid hN
  have HBH := Lib.hid HB2
  clear hEd hAv ho hs1 hfp hb2 HB HB2
  go_wp2_with fail
  go_loopg [33] N (fun g1 i wr => ∃ (k : Nat) (s : St), k ≤ N ∧ i = .int .i64 (k : Int) ∧ Hid (g1 = N - k) ∧ Hid s.ok ∧ Hid (Lone Av wr g s) ∧ Hid (playF (LL.drop k) s = playF LL S0) ∧ Hid (Kp Av w2 wr))
  case atStart => exact ⟨0, S0, Nat.zero_le _, rfl, Lib.hid rfl, hok0, hL0, Lib.hid rfl, Lib.hid (Kp.refl _)⟩
  case round =>
    clear hL0 hok0
    obtain ⟨k, s, hk, rfl, hr, hok, hL, hP, hK⟩ := hrel
    by_cases hlt : k < N
    · have hkl : Hid (k < LL.length) := Lib.hid (by rw [hN.out]; exact hlt)
      have hrw : Row wr 39 3 encE (.slice ya N yc) LL := hrow.out.keep (fun x hx => hK.out.block x (havy.out x hx))
      obtain ⟨bk, off, rfl, e0, e1, e2, hb⟩ := (hrw.at encE_len).ent k hkl.out
      have hxz := Lib.hid (hnm.out _ (List.getElem_mem hkl.out))
      have hP2 := Lib.hid (show LL.drop k = LL[k]'hkl.out :: LL.drop (k + 1) from List.drop_eq_getElem_cons hkl.out)
      obtain ⟨x, hx⟩ : ∃ x, LL[k]'hkl.out = x := ⟨_, rfl⟩
      rw [hx] at e0 e1 e2 hxz hP2
      clear hx hb hrw
      obtain ⟨xd, xk, xn⟩ := x
      dsimp only at e0 e1 e2 hxz
      have hok2 := Lib.hid (doS_ok s hok.out ⟨xd, xk, xn⟩ hxz.out)
      have hsz := Lib.hid hK.out.size
      obtain ⟨D, hD⟩ : ∃ D, doS s ⟨xd, xk, xn⟩ = D := ⟨_, rfl⟩
      go_upto_region 10 with fail
      generalize hWW : World.alloc _ _ = W4
      have ky : At W4 wr.heap.size 39 #[.int .i64 xd, .int .i64 xk, .string xn] := by rw [← hWW]; exact At.new' rfl
      have hbW : Below wr.heap.size wr W4 := by rw [← hWW]; exact below_al (Below.refl _ _) _
      replace hL := Lib.hid (hL.out.up hbW)
      replace hK := Lib.hid (hK.out.then hav.out hbW)
      have hsz2 := Lib.hid hK.out.size
      obtain ⟨y0, y1, y2⟩ := ky.three
      clear hWW hbW e0 e1 e2
      have HO := Lib.hid (lone_do hL.out (fun x hx => Nat.lt_of_lt_of_le (hav.out x hx) hK.out.size) hok.out xd xk xn hxz.out)
      rw [hD] at HO hok2
      go_wp2_with fail
      refine HO.out.mono ?_
      rintro e w5 ⟨rfl, hL5, hK5⟩
      replace hL5 := Lib.hid hL5
      replace hK5 := Lib.hid (hK.out.trans hK5)
      by_cases hz : D.1 = 0
      · have hgo : Hid (playF (LL.drop (k + 1)) D.2 = playF LL S0) := Lib.hid (by
          rw [← hP.out, hP2.out, playF_go (by rw [hD]; exact hz), hD])
        rw [hz]
        clear hL hK HO hP
        go_wp2_with fail
        go_roundg (N - (k + 1))
        case measure => have := hr.out; omega
        case rel => exact ⟨k + 1, D.2, by omega, by go_num, Lib.hid rfl, hok2, hL5, hgo, hK5⟩
      · have hst : Hid (playF LL S0 = (D.1, s)) := Lib.hid (by
          rw [← hP.out, hP2.out, playF_stop (by rw [hD]; exact hz), hD])
        obtain ⟨d1, hd1⟩ : ∃ d1, D.1 = d1 := ⟨_, rfl⟩
        rw [hd1] at hst hz ⊢
        have hc : (d1 != 0) = true := by simpa using hz
        have h1 : Hid (RE = d1) := Lib.hid (by rw [hpl.out, hst.out])
        replace hz := Lib.hid hz
        have HB5 := below_le HBH.out (hK5.out.below havw.out)
        clear hL hK HO hP
        go_wp2_with fail
        exact bodyPost_ret (v := .tuple #[.pointer none, .int .i64 d1]) (by simp [results, Tryz.results11, go_sem]) rfl ⟨fun _ => by rw [h1.out], (fun h => by rw [h1.out] at h; exact absurd h hz.out), HB5⟩
    · have hE : Hid (LL.drop k = []) := Lib.hid (List.drop_eq_nil_of_le (by have := hN.out; omega))
      have hst : Hid (playF LL S0 = (0, s)) := Lib.hid (by rw [← hP.out, hE.out]; rfl)
      have h1 : Hid (RE = 0) := Lib.hid (by rw [hpl.out, hst.out])
      have h2 : Hid (RS = s) := Lib.hid (by rw [hSd.out, hst.out])
      have HB5 := below_le HBH.out (hK.out.below havw.out)
      go_wp2_with fail
      exact bodyPost_ret (v := .tuple #[.pointer (some ⟨g, 0, none⟩), .int .i64 0]) (by simp [results, Tryz.results11, go_sem]) rfl ⟨fun h => absurd h1.out h, fun _ => by obtain ⟨p, q1, q2⟩ := hL.out; rw [h2.out]; exact ⟨g, p, rfl, q1, fun x hx => Nat.le_of_not_lt fun h => q2 x hx (havw.out x h)⟩, HB5⟩
end Go.Proofs.YtcokobdffbhpeaaGreatDoor
set_option linter.unusedVariables false
namespace Go.Proofs.YtcokobdffbhpeaaGreatDoor
open Go.ChangeShapes Go.WideShapes Go.ChangeAt Go.RowKit
theorem elemE : Tryz.prog.underlying 30 = some (.slice (Tryz.prog.elem 30)) := by kernel_rfl
theorem sizeE (w : World) : (sizeOf (Tryz.prog.elem 30)).run Tryz.prog w = .ok 3 w := by
  have : Tryz.prog.elem 30 = 39 := by kernel_rfl
  rw [this]
  exact Tryz.sizeOf39 w
theorem addr_zero (x : Addr) : x.add 0 = x := by cases x; simp [Addr.add]
theorem IsE.hi {l : List Ent} {a : Option Addr} {n c : Nat} {w : World} (h : IsE l (.slice a n c) w) (j : Nat) (hj : j ≤ n) :
    (∀ W, (Instr.slice 30 (.slice a n c) none (some (.int .i64 (j : Int))) none).run Tryz.prog W = .ok (.slice a j c) W) ∧ IsE (l.take j) (.slice a j c) w := by
  obtain ⟨a', c', e, h1, h2, h3⟩ := h
  injection e with e1 e2 e3
  subst e1 e2 e3
  have hlen : (l.take j).length = j := by rw [List.length_take]; omega
  refine ⟨fun W => ?_, a, c, by rw [hlen], by rw [hlen]; omega, h2, fun k hk => ?_⟩
  · rw [run_slice_h W 30 a l.length c elemE .i64 j (by omega) (by omega), sizeE]
    simp only [Result.andThen_ok, Int.toNat_natCast, sliced, Nat.zero_mul, Nat.sub_zero]
    congr 2
    split
    · rfl
    · cases a with
      | none => rfl
      | some x => simp [addr_zero]
  · obtain ⟨b, off, e, hlt, hc⟩ := h3 k (by rw [hlen] at hk; omega)
    exact ⟨b, off, e, hlt, fun q u hu => hc q u (by rw [← hu]; simp)⟩
theorem IsE.shape {l : List Ent} {v : Value} {w : World} (h : IsE l v w) : ∃ a n c, v = .slice a n c ∧ n = l.length ∧ n ≤ c ∧ c ≤ 9223372036854775807 := by
  obtain ⟨a, c, h1, h2, h3, _⟩ := h
  exact ⟨a, l.length, c, h1, rfl, h2, h3⟩
theorem rec_good {b : List UInt8} {l : List Ent} {n : Nat} {e : Int} (hb : b.length ≤ 1000000) (h : goodJ b = (l, n, e)) : recN b = 0 ∧ recB b = b.take n ∧ recL b = l ∧ gooN b = (l.length, n, 0) ∧ decE b = e := by
  have hn : ¬ 1048576 < b.length := by omega
  exact ⟨by unfold recN; rw [if_neg hn], by unfold recB; rw [if_neg hn, h], by unfold recL; rw [if_neg hn, h], by unfold gooN; rw [if_neg hn, h], by unfold decE; rw [if_neg hn, h]⟩
theorem names_le {l : List Ent} (h : logV l = true) : ∀ x ∈ l, x.name.size ≤ 10000 := fun x hx => by
  have := (WordsOk.of (logV_ent h hx)).bd.2
  omega
def ClonesE (l : List Ent) (V : Value) (L : Nat) (W : World) : Prop := ∀ u, Below W.heap.size W u → Calls Tryz.prog 27 #[V] u fun e w' => (∃ cy cc, e = .returned (.slice cy L cc) ∧ Hid (w'.ownsRow u.heap.size 39 3 (.slice cy L cc) L (l.flatMap encE))) ∧ Below u.heap.size u w'
theorem ClonesE.up {l : List Ent} {V : Value} {L : Nat} {W W' : World} (hb : Below W.heap.size W W') (h : ClonesE l V L W) : ClonesE l V L W' := fun u hu => h u (below_then hb hu)
theorem limU16 {n : Int} (h : (Lit.int .u16 n).wf = true) : ∃ m : Nat, n = (m : Int) ∧ m < 65536 := by
  simp only [Lit.wf, Bool.and_eq_true, decide_eq_true_eq] at h
  have e1 : IntKind.u16.min = 0 := by decide
  have e2 : IntKind.u16.max = 65535 := by decide
  rw [e1, e2] at h
  exact ⟨n.toNat, by omega, by omega⟩
theorem limU8 {n : Int} (h : (Lit.int .u8 n).wf = true) : ∃ m : Nat, n = (m : Int) ∧ m < 256 := by
  simp only [Lit.wf, Bool.and_eq_true, decide_eq_true_eq] at h
  have e1 : IntKind.u8.min = 0 := by decide
  have e2 : IntKind.u8.max = 255 := by decide
  rw [e1, e2] at h
  exact ⟨n.toNat, by omega, by omega⟩
end Go.Proofs.YtcokobdffbhpeaaGreatDoor
set_option linter.unusedVariables false
namespace Go.Proofs.YtcokobdffbhpeaaGreatDoor
open Go.ChangeShapes Go.WideShapes Go.ChangeAt Go.RowKit
theorem IsE.lo {l : List Ent} {a : Option Addr} {n c : Nat} {w : World} (h : IsE l (.slice a n c) w) (i : Nat) (hi : i ≤ n) :
    ∃ A, (∀ W, (Instr.slice 30 (.slice a n c) (some (.int .i64 (i : Int))) none none).run Tryz.prog W = .ok (.slice A (n - i) (c - i)) W) ∧ IsE (l.drop i) (.slice A (n - i) (c - i)) w := by
  obtain ⟨a', c', e, h1, h2, h3⟩ := h
  injection e with e1 e2 e3
  subst e1 e2 e3
  have hlen : (l.drop i).length = l.length - i := List.length_drop ..
  refine ⟨if c = i then a else a.map (·.add (i * 3)), fun W => ?_, _, _, by rw [hlen], by rw [hlen]; omega, by omega, fun k hk => ?_⟩
  · rw [run_slice_l W 30 a l.length c elemE .i64 i (by omega) (by omega), sizeE]
    simp only [Result.andThen_ok, Int.toNat_natCast]
    rfl
  · rw [hlen] at hk
    obtain ⟨b, off, e, hlt, hc⟩ := h3 (i + k) (by omega)
    rw [if_neg (by omega), e]
    refine ⟨b, off + i * 3, by simp [Addr.add], hlt, fun q u hu => ?_⟩
    have := hc q u (by rw [← hu]; simp)
    rw [← this]
    congr 2
    omega
theorem IsB.byteAt {l : List UInt8} {g cap n : Nat} {w : World} (h : IsB l (.slice (some ⟨g, 0, none⟩) n cap) w) {k : Nat} (hk : k < l.length) : w.cell? ⟨g, k, none⟩ = some (.int .u8 (l[k].toNat : Int)) := by
  obtain ⟨a, c', e, h2, h3, h4, h5⟩ := h
  injection e with e1 e2 e3
  subst e1 e2 e3
  obtain ⟨b, off, e, hc, _⟩ := h4.byte k hk
  simp only [Option.some.injEq, Addr.mk.injEq, and_true] at e
  obtain ⟨rfl, rfl⟩ := e
  rw [Nat.zero_add] at hc
  exact hc
theorem rep_enc {l : List Bun} {m : ByteArray} {k : List Ent} {T : St} (hn : newOk l m = true) (hv : logV k = true) (hp : playF k (st0 l m) = (0, T)) : repE l m (encJ k) = 0 ∧ repS l m (encJ k) = T := by
  obtain ⟨d1, d2, _⟩ := dec_enc hv
  refine ⟨by rw [repE_play hn d1, d2, hp], by unfold repS; rw [d2, hp]⟩
theorem play_next {x : Ent} {r : List Ent} {s S : St} (h : playF (x :: r) s = (0, S)) : (doS s x).1 = 0 ∧ playF r (doS s x).2 = (0, S) := by
  by_cases hx : (doS s x).1 = 0
  · rw [playF_go hx] at h
    exact ⟨hx, h⟩
  · rw [playF_stop hx] at h
    exact absurd (congrArg Prod.fst h) hx
theorem shortB_yes {l : List Bun} {most : Nat} (h : shortB l most = true) : ∀ x ∈ l, x.tag.size ≤ 60 ∧ x.mark.size ≤ 60 := fun x hx => by
  unfold shortB at h
  rw [Bool.and_eq_true] at h
  have := List.all_eq_true.1 h.2 x hx
  simpa using this
theorem greed_loads {l : List Bun} {most : Int} (hk : GivK l most) : LoadsOk l.length (greedG (massN l) most (ordN (massN l) l.length)).1 ∧ (greedG (massN l) most (ordN (massN l) l.length)).1.length ≤ l.length := by
  have h := greed_ok (n := l.length) hk.fit
  refine ⟨h.perm.trans (ordN_perm _ _), ?_⟩
  have := h.few
  rwa [ordN_len] at this
theorem greed_all {l : List Bun} {most : Int} {L : List (List Nat)} (hk : GivK l most) (hL : (greedG (massN l) most (ordN (massN l) l.length)).1 = L) (hn : l.length ≤ 10) (hs : ∀ x ∈ l, x.tag.size ≤ 60 ∧ x.mark.size ≤ 60) :
    (∀ i ∈ L.flatten, i < l.length) ∧ L.flatten.length ≤ 10 ∧ L.length ≤ 10 ∧ ∃ S, YardK l (yardE (l.map (·.tag)) L) S := by
  obtain ⟨h1, h2⟩ := greed_loads hk
  rw [hL] at h1 h2
  refine ⟨fun i hi => h1.lt hi, by rw [h1.len]; exact hn, by omega, yard_known hk.val h1 (by omega) (by omega) hs⟩
end Go.Proofs.YtcokobdffbhpeaaGreatDoor
