/- SiteZero's walk: it returns true. -/
import Derived.Test.YtpocmijfkjjboaaSjF
set_option linter.unusedVariables false
namespace Go.Proofs.Ytpocmijfkjjboaa
open Go.ChangeShapes Go.WideShapes Go.ChangeAt Go.RowKit

set_option maxRecDepth 100000 in
theorem nil_missing (w : World) : Calls Try.prog 15 #[.pointer none] w fun e w' => e = .returned (.slice none 0 0) ∧ Below w.heap.size w w' := by
  go_enter Try.func15, Try.ntmps15
  go_wp2_with fail
  go_ret
  exact ⟨rfl, (by repeat (first | with_reducible assumption | with_reducible exact Below.refl _ _ | with_reducible refine below_al ?_ _ | with_reducible refine below_drew ?_ | with_reducible refine below_drewN ?_ _ | with_reducible refine below_set ?_ (by dsimp only; omega) _))⟩

set_option maxRecDepth 100000 in
theorem nil_open (w : World) : Calls Try.prog 16 #[.pointer none] w fun e w' => e = .returned (.slice none 0 0) ∧ Below w.heap.size w w' := by
  go_enter Try.func16, Try.ntmps16
  go_wp2_with fail
  go_ret
  exact ⟨rfl, (by repeat (first | with_reducible assumption | with_reducible exact Below.refl _ _ | with_reducible refine below_al ?_ _ | with_reducible refine below_drew ?_ | with_reducible refine below_drewN ?_ _ | with_reducible refine below_set ?_ (by dsimp only; omega) _))⟩

set_option maxRecDepth 100000 in
theorem nil_entries (w : World) : Calls Try.prog 18 #[.pointer none] w fun e w' => e = .returned (.slice none 0 0) ∧ Below w.heap.size w w' := by
  go_enter Try.func18, Try.ntmps18
  go_wp2_with fail
  go_ret
  exact ⟨rfl, (by repeat (first | with_reducible assumption | with_reducible exact Below.refl _ _ | with_reducible refine below_al ?_ _ | with_reducible refine below_drew ?_ | with_reducible refine below_drewN ?_ _ | with_reducible refine below_set ?_ (by dsimp only; omega) _))⟩

set_option maxRecDepth 100000 in
theorem nil_ready (w : World) : Calls Try.prog 17 #[.pointer none] w fun e w' => e = .returned (.bool false) ∧ Below w.heap.size w w' := by
  go_enter Try.func17, Try.ntmps17
  go_wp2_with fail
  go_ret
  exact ⟨rfl, (by repeat (first | with_reducible assumption | with_reducible exact Below.refl _ _ | with_reducible refine below_al ?_ _ | with_reducible refine below_drew ?_ | with_reducible refine below_drewN ?_ _ | with_reducible refine below_set ?_ (by dsimp only; omega) _))⟩

set_option maxRecDepth 100000 in
theorem nil_do (w : World) : Calls Try.prog 12 #[.pointer none, .agg #[.int .i64 0, .int .i64 3, .string ⟨#[97]⟩]] w fun e w' => e = .returned (.int .i64 1) ∧ Below w.heap.size w w' := by
  go_enter Try.func12, Try.ntmps12
  go_wp2_with fail
  go_ret
  exact ⟨rfl, (by repeat (first | with_reducible assumption | with_reducible exact Below.refl _ _ | with_reducible refine below_al ?_ _ | with_reducible refine below_drew ?_ | with_reducible refine below_drewN ?_ _ | with_reducible refine below_set ?_ (by dsimp only; omega) _))⟩

set_option maxRecDepth 100000 in
theorem nil_account (w : World) : Calls Try.prog 14 #[.pointer none] w fun e w' => e = .returned (.tuple #[.int .i64 0, .int .i64 0, .int .i64 0]) ∧ Below w.heap.size w w' := by
  go_enter Try.func14, Try.ntmps14
  go_upto_region 8 with fail
  generalize hWW : World.alloc _ _ = W1
  have kz : At W1 w.heap.size 67 #[.int .i64 0, .int .i64 0, .int .i64 0] := by rw [← hWW]; exact At.new' rfl
  have HB : Below w.heap.size w W1 := by rw [← hWW]; exact below_al (Below.refl _ _) _
  clear hWW
  obtain ⟨kz0, kz1, kz2⟩ := kz.three
  have K0 := cell_regrown kz0
  have K1 := cell_regrown kz1
  have K2 := cell_regrown kz2
  refine wp_region_quiet_below (by kernel_rfl) (by kernel_rfl) ?_
  repeat (go_big_quiet_step (fail))
  refine wpQuiet_nil ?_
  intro v hb'
  have hb := below_of_regrown hb'
  replace HB := below_then HB hb
  clear hb' hb
  go_wp2_with fail
  exact bodyPost_ret (v := .tuple #[.int .i64 0, .int .i64 0, .int .i64 0]) (by simp [results, Try.results14, go_sem]) rfl ⟨rfl, HB⟩
def stZ : St := ⟨[], [], ⟨#[]⟩, [], [], false⟩
theorem stZ_ok : stZ.ok := ⟨by simp [stZ], rfl, by simp [stZ], by decide, by decide, by decide, by simp [stZ], by simp [stZ], by simp [stZ]⟩
theorem zero_duo {w W : World} {g h : Nat} (hg : At W g 42 #[.slice none 0 0, .slice none 0 0, .string ⟨#[]⟩, .slice none 0 0, .slice none 0 0, .bool false, .map none]) (hh : At W h 44 #[.slice none 0 0, .slice none 0 0, .string ⟨#[]⟩, .slice none 0 0, .slice none 0 0, .bool false]) (h1 : w.heap.size ≤ g) (h2 : w.heap.size ≤ h) (hne : g ≠ h) : ∃ X, Duo w.heap.size X W g h stZ stZ := by
  have no : ∀ o : Option Nat, Dj o none := fun o x _ h => by cases h
  have on : ∀ b, some b ∈ [some g, none, none, none, none, (none : Option Nat)] → b = g := fun b hb => by
    simp only [List.mem_cons, List.not_mem_nil, or_false] at hb
    rcases hb with q | q | q | q | q | q
    · injection q
    all_goals cases q
  have on2 : ∀ b, some b ∈ [some h, none, none, none, (none : Option Nat)] → b = h := fun b hb => by
    simp only [List.mem_cons, List.not_mem_nil, or_false] at hb
    rcases hb with q | q | q | q | q
    · injection q
    all_goals cases q
  have lg := hg.lt
  have lh := hh.lt
  refine ⟨W.heap.size, ⟨.slice none 0 0, .slice none 0 0, .slice none 0 0, .slice none 0 0, none⟩, ⟨.slice none 0 0, .slice none 0 0, .slice none 0 0, .slice none 0 0⟩, ⟨hg, World.ownsRow_nil _ _ _ _, World.ownsRow_nil _ _ _ _, World.ownsRow_nil _ _ _ _, World.ownsRow_nil _ _ _ _, (fun m e => by cases e), Djs.iff.2 ⟨no _, no _, no _, no _, no _, no _, no _, no _, no _, no _, no _, no _, no _, no _, no _⟩⟩, ⟨hh, ⟨[], rfl, World.ownsRow_nil _ _ _ _⟩, World.ownsRow_nil _ _ _ _, World.ownsRow_nil _ _ _ _, World.ownsRow_nil _ _ _ _, RDjs.iff.2 ⟨no _, no _, no _, no _, no _, no _, no _, no _, no _, no _⟩⟩, fun b hb => ?_, fun b hb => ?_, fun b hb hn => ?_⟩
  · rw [on b hb]; exact ⟨h1, by omega⟩
  · rw [on2 b hb]; exact ⟨h2, by omega⟩
  · exact hne ((on b hb).symm.trans (on2 b hn))

set_option maxRecDepth 100000 in
set_option maxHeartbeats 4000000 in
theorem siteZero_walk (es : List Ent) (a2 : Option Addr) (c2 : Nat) (h2 : es.length ≤ c2) (hc2 : c2 ≤ 9223372036854775807) (w : World) (r2 : RowAt encE 3 w.heap.size w a2 es) (hf2 : (a2 = none ∧ es.length = 0 ∧ c2 = 0) ∨ ∃ b off, a2 = some ⟨b, off, none⟩) :
    Calls Try.prog 4 #[.slice a2 es.length c2] w fun e w' => e = .returned (.bool true) ∧ Below w.heap.size w w' := by
  have up2 : Hid (∀ u, Below w.heap.size w u → RowAt encE 3 u.heap.size u a2 es) := Lib.hid fun u hb => (r2.bel (Nat.le_refl _) hb).mono hb.size
  have HL := Lib.hid fun u (hb : Below w.heap.size w u) => large_any [] ⟨#[]⟩ es none a2 0 c2 (Nat.le_refl _) h2 (by decide) hc2 u (RowAt.nil _ _) (up2.out u hb)
  obtain ⟨lg, hlg⟩ : ∃ lg, largeB [] ⟨#[]⟩ es = lg := ⟨_, rfl⟩
  rw [hlg] at HL
  have hsm : Hid (lg = false → es.length ≤ 25 ∧ ∀ x ∈ es, x.name.size ≤ 60) := Lib.hid fun hl => (large_no (hlg.trans hl)).2.2
  obtain ⟨n, hn⟩ : ∃ n, es.length = n := ⟨_, rfl⟩
  rw [hn] at HL
  rw [hn] at h2 hsm ⊢
  replace hn := Lib.hid hn
  clear hlg hf2 r2 hc2
  go_enter Try.func4, Try.ntmps4
  go_wp2_with fail
  refine (awake_any _).mono ?_
  rintro e w1 ⟨rfl, HB⟩
  go_wp2_with fail
  refine (HL.out _ HB).mono ?_
  rintro e w2 ⟨rfl, hb2⟩
  replace HB := below_then HB hb2
  clear hb2 HL
  cases lg
  rotate_left
  · go_wp2_with fail
    go_ret
    exact ⟨rfl, HB⟩
  replace hsm := Lib.hid (hsm.out rfl)
  have hn25 : n ≤ 25 := hsm.out.1
  go_upto_region 6 with fail
  generalize hWW : World.alloc _ _ = W3
  have hD5 : Hid (∃ X, Duo w.heap.size X W3 w2.heap.size (w2.heap.size + 1) stZ stZ) := Lib.hid (by
    rw [← hWW]
    exact zero_duo (At.al (At.new' rfl) _) (At.new' (by simp)) HB.size (Nat.le_succ_of_le HB.size) (by omega))
  have HB5 : Below w.heap.size w W3 := by rw [← hWW]; exact below_al (below_al HB _) _
  clear hWW HB
  obtain ⟨g, hg⟩ : ∃ g, w2.heap.size = g := ⟨_, rfl⟩
  obtain ⟨h, hh⟩ : ∃ h, w2.heap.size + 1 = h := ⟨_, rfl⟩
  rw [hh, hg] at hD5
  rw [hh, hg]
  clear hh hg
  have hok0 := Lib.hid stZ_ok
  go_wp2_with fail
  go_loopg [21] n (fun g1 i wr => ∃ (k : Nat) (s : St), k ≤ n ∧ i = .int .i64 (k : Int) ∧ Hid (g1 = n - k) ∧ Hid s.ok ∧ Hid (∃ X, Duo w.heap.size X wr g h s s) ∧ Below w.heap.size w wr)
  case atStart => exact ⟨0, stZ, Nat.zero_le _, rfl, Lib.hid rfl, hok0, hD5, HB5⟩
  case round =>
    clear hD5 HB5 hok0
    obtain ⟨k, s, hk, rfl, hr, hok, hD, HB⟩ := hrel
    by_cases hlt : k < n
    · have hkl : Hid (k < es.length) := Lib.hid (by rw [hn.out]; exact hlt)
      obtain ⟨b, off, rfl, e0, e1, e2, hb⟩ := (up2.out wr HB).ent k hkl.out
      have hxz := Lib.hid (hsm.out.2 _ (List.getElem_mem hkl.out))
      obtain ⟨x, hx⟩ : ∃ x, es[k]'hkl.out = x := ⟨_, rfl⟩
      rw [hx] at e0 e1 e2 hxz
      clear hx hb
      obtain ⟨xd, xk, xn⟩ := x
      dsimp only at e0 e1 e2 hxz
      have hok2 := Lib.hid (doS_ok s hok.out ⟨xd, xk, xn⟩ hxz.out)
      go_upto_region 9 with fail
      generalize hWW : World.alloc _ _ = W1
      have kx : At W1 wr.heap.size 35 #[.int .i64 xd, .int .i64 xk, .string xn] := by rw [← hWW]; exact At.new' rfl
      have hbW : Below wr.heap.size wr W1 := by rw [← hWW]; exact below_al (Below.refl _ _) _
      have hD1 : Duo w.heap.size wr.heap.size W1 g h s s := by
        obtain ⟨X, hX⟩ := hD.out
        exact (hX.other wr.heap.size (Nat.le_refl _)).up hbW
      have HB1 := below_then HB hbW
      clear hWW hbW e0 e1 e2 hD HB
      have k0 := kx.c0'
      have k1 := kx.c1'
      have k2 := kx.c2'
      go_region_held3 (fun w' => Below w.heap.size w w' ∧ w'.cell? ⟨wr.heap.size, 0, none⟩ = some (.int .i64 xd) ∧ w'.cell? ⟨wr.heap.size, 1, none⟩ = some (.int .i64 xk) ∧ w'.cell? ⟨wr.heap.size, 2, none⟩ = some (.string xn)) ((first | ((try go_split_ands); refine ⟨?_, ?_, ?_, ?_⟩ <;> (first | ((repeat (first | with_reducible assumption | with_reducible exact Below.refl _ _ | with_reducible refine below_drew ?_ | with_reducible refine below_drewN ?_ _ | with_reducible refine below_le ?_ (by with_reducible assumption) | with_reducible refine below_then ?_ (by with_reducible assumption))); done) | ((first | with_reducible assumption | (with_reducible apply At.c0'; (repeat (first | with_reducible assumption | with_reducible apply At.drw | with_reducible refine At.bel ?_ (by with_reducible assumption))); done) | (with_reducible apply At.c1'; (repeat (first | with_reducible assumption | with_reducible apply At.drw | with_reducible refine At.bel ?_ (by with_reducible assumption))); done) | (with_reducible apply At.c2'; (repeat (first | with_reducible assumption | with_reducible apply At.drw | with_reducible refine At.bel ?_ (by with_reducible assumption))); done)); done))) | go_keep))
          (first
            | (go_at_call 12; refine (duo_do (B := w.heap.size) (X := wr.heap.size) (h := h) (s := s) (t := s) (cs := #[.int .i64 xd, .int .i64 xk, .string xn]) ?_ (Below.size (B := w.heap.size) (w := w) ?_) hok.out xd xk xn hxz.out ?_).mono ?_; (focus ((repeat (first | with_reducible assumption | with_reducible refine Duo.up (by with_reducible assumption) ?_ | with_reducible refine Duo.up (drew_bel _) ?_)); done)); (focus ((repeat (first | with_reducible assumption | with_reducible exact Below.refl _ _ | with_reducible refine below_drew ?_ | with_reducible refine below_drewN ?_ _ | with_reducible refine below_le ?_ (by with_reducible assumption) | with_reducible refine below_then ?_ (by with_reducible assumption))); done)); (focus ((repeat (first | with_reducible assumption | with_reducible apply At.drw | with_reducible refine At.bel ?_ (by with_reducible assumption))); done)); rintro e w' ⟨rfl, hd1, kx1, hb1⟩)
            | (go_at_call 13; refine (duo_rdo (B := w.heap.size) (X := wr.heap.size) (g := g) (s := (doS s ⟨xd, xk, xn⟩).2) (t := s) (cs := #[.int .i64 xd, .int .i64 xk, .string xn]) ?_ (Below.size (B := w.heap.size) (w := w) ?_) hok.out xd xk xn hxz.out ?_).mono ?_; (focus ((repeat (first | with_reducible assumption | with_reducible refine Duo.up (by with_reducible assumption) ?_ | with_reducible refine Duo.up (drew_bel _) ?_)); done)); (focus ((repeat (first | with_reducible assumption | with_reducible exact Below.refl _ _ | with_reducible refine below_drew ?_ | with_reducible refine below_drewN ?_ _ | with_reducible refine below_le ?_ (by with_reducible assumption) | with_reducible refine below_then ?_ (by with_reducible assumption))); done)); (focus ((repeat (first | with_reducible assumption | with_reducible apply At.drw | with_reducible refine At.bel ?_ (by with_reducible assumption))); done)); rintro e w' ⟨rfl, hd2, kx2, hb2⟩)
            | (go_at_call 11; refine (duo_same (B := w.heap.size) (X := wr.heap.size) (s := (doS s ⟨xd, xk, xn⟩).2) ?_ hok2.out).mono ?_; (focus ((repeat (first | with_reducible assumption | with_reducible refine Duo.up (by with_reducible assumption) ?_ | with_reducible refine Duo.up (drew_bel _) ?_)); done)); rintro e w' ⟨rfl, hb3⟩; have kx3 := At.bel kx2 hb3))
      all_goals
        have hD9 : Hid (∃ X, Duo w.heap.size X w' g h (doS s ⟨xd, xk, xn⟩).2 (doS s ⟨xd, xk, xn⟩).2) := Lib.hid ⟨_, hd2.up hb3⟩
        go_wp2_with fail
        go_roundg (n - (k + 1))
        case measure => have := hr.out; omega
        case rel => exact ⟨k + 1, _, by omega, by go_num, Lib.hid rfl, hok2, hD9, by repeat (first | with_reducible assumption | with_reducible exact Below.refl _ _ | with_reducible refine below_drew ?_ | with_reducible refine below_drewN ?_ _ | with_reducible refine below_le ?_ (by with_reducible assumption) | with_reducible refine below_then ?_ (by with_reducible assumption))⟩
    · clear hD hok
      go_wp2_with fail
      refine (nil_account _).mono ?_
      rintro e v0 ⟨rfl, hb0⟩
      replace HB := below_then HB hb0
      clear hb0
      go_wp2_with fail
      refine (nil_do _).mono ?_
      rintro e v1 ⟨rfl, hb1⟩
      replace HB := below_then HB hb1
      clear hb1
      go_wp2_with fail
      refine (nil_missing _).mono ?_
      rintro e v2 ⟨rfl, hb2⟩
      replace HB := below_then HB hb2
      clear hb2
      go_wp2_with fail
      refine (nil_open _).mono ?_
      rintro e v3 ⟨rfl, hb3⟩
      replace HB := below_then HB hb3
      clear hb3
      go_wp2_with fail
      refine (nil_ready _).mono ?_
      rintro e v4 ⟨rfl, hb4⟩
      replace HB := below_then HB hb4
      clear hb4
      go_wp2_with fail
      refine (nil_entries _).mono ?_
      rintro e v5 ⟨rfl, hb5⟩
      replace HB := below_then HB hb5
      clear hb5
      go_wp2_with fail
      go_ret
      exact ⟨rfl, HB⟩

end Go.Proofs.Ytpocmijfkjjboaa
