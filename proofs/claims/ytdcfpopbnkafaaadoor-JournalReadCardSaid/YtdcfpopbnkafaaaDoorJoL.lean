/- journal: the reference's integer, Read. -/
import Derived.Test.YtdcfpopbnkafaaaDoorJoK
set_option linter.unusedVariables false
namespace Go.Proofs.YtdcfpopbnkafaaaDoor
open Go.ChangeShapes Go.WideShapes Go.ChangeAt Go.RowKit

open Go.Lib (decDigits itoa itoa_nonneg)
theorem by_take' (s : ByteArray) (k : Nat) (h : k < s.size) : (by_ s).take (k + 1) = (by_ s).take k ++ [s[k]'h] := by
  rw [List.take_succ_eq_append_getElem (by rw [by_len]; exact h)]
  rfl
theorem numV_step (t c : Nat) (ht : t < 1000000000000000) (h1 : 48 ≤ c) (h2 : c ≤ 57) : ∃ u : Nat, u = 10 * t + (c - 48) ∧ IntKind.i64.wrap (10 * (t : Int)) = 10 * (t : Int) ∧ IntKind.u8.wrap ((c : Int) - 48) = (c : Int) - 48 ∧ IntKind.i64.wrap ((c : Int) - 48) = (c : Int) - 48 ∧ IntKind.i64.wrap (10 * (t : Int) + ((c : Int) - 48)) = (u : Int) := by
  refine ⟨_, rfl, IntWalk.i64_in _ (by omega), by rw [IntKind.wrap_u8]; omega, IntWalk.i64_in _ (by omega), ?_⟩
  rw [IntWalk.i64_in _ (by omega)]
  omega
set_option maxRecDepth 100000 in
set_option maxHeartbeats 2000000 in
theorem refint_v (s : ByteArray) (hs : s.size ≤ 1000000) (w : World) :
    Calls Tryd.prog 58 #[.string s] w fun e w' => (∃ n : Int, e = .returned (.tuple #[.int .i64 n, .bool (intO (by_ s)).isSome]) ∧ Hid (∀ q, intO (by_ s) = some q → n = (q : Int))) ∧ w = w' := by
  obtain ⟨R, hR⟩ : ∃ R, (intO (by_ s)).isSome = R := ⟨_, rfl⟩
  rw [hR]
  have hr := intR_iff (by_ s)
  rw [hR] at hr
  unfold intR at hr
  have hl : (by_ s).length = s.size := rfl
  rw [hl] at hr
  have hVf : R = false → Hid (∀ q, intO (by_ s) = some q → (0 : Int) = (q : Int)) := fun h => Lib.hid fun q h2 => by
    rw [h2] at hR
    rw [← hR] at h
    cases h
  by_cases h0 : s.size < 1
  · have hf : R = false := by rw [← hr, decide_eq_false (by omega)]; rfl
    have hE := Lib.hid hf
    have hV := hVf hf
    have z0 : ((s.size : Int) < 1) := by omega
    clear hr hR hVf hf hl
    go_enter Tryd.func58, Tryd.ntmps58
    go_wp2_with fail
    exact bodyPost_ret (v := .tuple #[.int .i64 0, .bool false]) (by simp [results, Tryd.results58, go_sem]) rfl ⟨⟨0, by rw [hE.out], hV⟩, rfl⟩
  by_cases h1 : 15 < s.size
  · have hf : R = false := by rw [← hr, decide_eq_false (show ¬ s.size ≤ 15 by omega)]; simp
    have hE := Lib.hid hf
    have hV := hVf hf
    have z0 : ((s.size : Int) < 1) = False := by simp; omega
    clear hr hR hVf hf hl
    go_enter Tryd.func58, Tryd.ntmps58
    go_wp2_with fail
    exact bodyPost_ret (v := .tuple #[.int .i64 0, .bool false]) (by simp [results, Tryd.results58, go_sem]) rfl ⟨⟨0, by rw [hE.out], hV⟩, rfl⟩
  have hp : 0 < s.size := by omega
  obtain ⟨c, hc⟩ : ∃ c, s[0]'hp = c := ⟨_, rfl⟩
  have hhd : (by_ s).head? = some c := by
    rw [List.head?_eq_getElem?, List.getElem?_eq_getElem (by rw [hl]; exact hp)]
    exact congrArg some hc
  rw [decide_eq_true (show 1 ≤ s.size by omega), decide_eq_true (show s.size ≤ 15 by omega), hhd] at hr
  have main : Hid ((decide (1 < s.size) && (c == 48)) = false → Calls Tryd.prog 58 #[.string s] w fun e w' => (∃ n : Int, e = .returned (.tuple #[.int .i64 n, .bool R]) ∧ Hid (∀ q, intO (by_ s) = some q → n = (q : Int))) ∧ w = w') := Lib.hid fun hz => by
    have hR2 : Hid (R = (by_ s).all digB) := Lib.hid (by
      rw [← hr]
      have : (decide (1 < s.size) && some c == some 48) = false := by rw [← hz]; congr 1
      rw [this]
      simp)
    have hVn : Hid (∀ q, intO (by_ s) = some q → (numV (by_ s) : Int) = (q : Int)) := Lib.hid fun q h => by rw [(intO_val h).1]
    have hf0 := Lib.hid hVf
    obtain ⟨n, hn⟩ : ∃ n, s.size = n := ⟨_, rfl⟩
    have hz' : 1 < n → ((c.toNat : Int) == 48) = false := fun h => by
      rw [← hn] at h
      rw [decide_eq_true h, Bool.true_and, beq_eq_false_iff_ne] at hz
      rw [beq_eq_false_iff_ne]
      intro e
      apply hz
      apply UInt8.toNat_inj.1
      have : (48 : UInt8).toNat = 48 := rfl
      omega
    have hgo : Hid (∀ k, k < n → ∃ c : UInt8, ∃ h : k < s.size, s[k]'h = c) := Lib.hid fun k hk => ⟨_, by omega, rfl⟩
    clear hr hR hVf hhd hz
    have h1n : ¬ 15 < n := by omega
    have h0n : ¬ n < 1 := by omega
    rw [hn] at hl
    by_cases hn1 : 1 < n
    · have hz2 := hz' hn1
      clear hz'
      go_enter Tryd.func58, Tryd.ntmps58
      go_wp2_with fail
      go_loopg [5, 4] n (fun g i v wr => ∃ (k t : Nat), k ≤ n ∧ i = .int .i64 (k : Int) ∧ v = .int .i64 (t : Int) ∧ Hid (g = n - k ∧ ((by_ s).take k).all digB = true ∧ numV ((by_ s).take k) = t) ∧ w = wr)
      case atStart => exact ⟨0, 0, Nat.zero_le _, rfl, rfl, Lib.hid ⟨rfl, rfl, rfl⟩, rfl⟩
      case round =>
        obtain ⟨k, t, hk, rfl, rfl, hrr, rfl⟩ := hrel
        by_cases hlt : k < n
        · obtain ⟨c, hks, hc⟩ := hgo.out k hlt
          have htk := by_take' s k hks
          rw [hc] at htk
          have htl : t < 1000000000000000 := by
            have h1 := numV_lt _ ((by_ s).take k) rfl hrr.out.2.1
            rw [hrr.out.2.2, List.length_take] at h1
            have h2 : 10 ^ (min k (by_ s).length) ≤ 10 ^ 15 := Nat.pow_le_pow_right (by decide) (by omega)
            omega
          cases hdg : digB c
          · have hE : Hid (R = false) := Lib.hid (by
              rw [hR2.out]
              cases hall : (by_ s).all digB
              · rfl
              · have hm : c ∈ by_ s := List.mem_of_mem_take (i := k + 1) (by rw [htk]; simp)
                have := List.all_eq_true.1 hall c hm
                rw [hdg] at this
                cases this)
            have hV := hf0.out hE.out
            unfold digB at hdg
            rw [Bool.and_eq_false_iff, decide_eq_false_iff_not, decide_eq_false_iff_not] at hdg
            clear htk htl
            rcases hdg with h48 | h57
            · have z1 : decide ((c.toNat : Int) < 48) = true := by simp; omega
              clear h48
              go_wp2_with fail
              exact bodyPost_ret (v := .tuple #[.int .i64 0, .bool false]) (by simp [results, Tryd.results58, go_sem]) rfl ⟨⟨0, by rw [hE.out], hV⟩, rfl⟩
            · by_cases h48 : c.toNat < 48
              · have z1 : decide ((c.toNat : Int) < 48) = true := by simp; omega
                clear h48 h57
                go_wp2_with fail
                exact bodyPost_ret (v := .tuple #[.int .i64 0, .bool false]) (by simp [results, Tryd.results58, go_sem]) rfl ⟨⟨0, by rw [hE.out], hV⟩, rfl⟩
              · have z1 : decide ((c.toNat : Int) < 48) = false := by simp; omega
                have z2 : decide ((57 : Int) < (c.toNat : Int)) = true := by simp; omega
                clear h48 h57
                go_wp2_with fail
                exact bodyPost_ret (v := .tuple #[.int .i64 0, .bool false]) (by simp [results, Tryd.results58, go_sem]) rfl ⟨⟨0, by rw [hE.out], hV⟩, rfl⟩
          · obtain ⟨b1, b2⟩ := digB_bd hdg
            obtain ⟨u, hu, w1, w2, w3, w4⟩ := numV_step t c.toNat htl b1 b2
            have hS : Hid (((by_ s).take (k + 1)).all digB = true ∧ numV ((by_ s).take (k + 1)) = u) := Lib.hid (by
              rw [htk, List.all_append, hrr.out.2.1, numV_snoc, hrr.out.2.2, hu]
              simp [hdg])
            have z1 : decide ((c.toNat : Int) < 48) = false := by simp; omega
            have z2 : decide ((57 : Int) < (c.toNat : Int)) = false := by simp; omega
            clear hdg htk htl hu b1 b2
            go_wp2_with fail
            go_roundg (n - (k + 1))
            case measure => have := hrr.out.1; omega
            case rel => exact ⟨k + 1, u, by omega, by go_num, rfl, Lib.hid ⟨rfl, hS.out⟩, rfl⟩
        · have hfull : (by_ s).take k = by_ s := List.take_of_length_le (by rw [hl]; omega)
          have hE : Hid (R = true) := Lib.hid (by rw [hR2.out, ← hfull]; exact hrr.out.2.1)
          have ht : numV (by_ s) = t := by rw [← hfull]; exact hrr.out.2.2
          have hV : Hid (∀ q, intO (by_ s) = some q → (t : Int) = (q : Int)) := Lib.hid fun q h => by rw [← ht]; exact hVn.out q h
          clear hfull ht
          go_wp2_with fail
          exact bodyPost_ret (v := .tuple #[.int .i64 (t : Int), .bool true]) (by simp [results, Tryd.results58, go_sem]) rfl ⟨⟨(t : Int), by rw [hE.out], hV⟩, rfl⟩
    · clear hz'
      go_enter Tryd.func58, Tryd.ntmps58
      go_wp2_with fail
      go_loopg [5, 4] n (fun g i v wr => ∃ (k t : Nat), k ≤ n ∧ i = .int .i64 (k : Int) ∧ v = .int .i64 (t : Int) ∧ Hid (g = n - k ∧ ((by_ s).take k).all digB = true ∧ numV ((by_ s).take k) = t) ∧ w = wr)
      case atStart => exact ⟨0, 0, Nat.zero_le _, rfl, rfl, Lib.hid ⟨rfl, rfl, rfl⟩, rfl⟩
      case round =>
        obtain ⟨k, t, hk, rfl, rfl, hrr, rfl⟩ := hrel
        by_cases hlt : k < n
        · obtain ⟨c, hks, hc⟩ := hgo.out k hlt
          have htk := by_take' s k hks
          rw [hc] at htk
          have htl : t < 1000000000000000 := by
            have h1 := numV_lt _ ((by_ s).take k) rfl hrr.out.2.1
            rw [hrr.out.2.2, List.length_take] at h1
            have h2 : 10 ^ (min k (by_ s).length) ≤ 10 ^ 15 := Nat.pow_le_pow_right (by decide) (by omega)
            omega
          cases hdg : digB c
          · have hE : Hid (R = false) := Lib.hid (by
              rw [hR2.out]
              cases hall : (by_ s).all digB
              · rfl
              · have hm : c ∈ by_ s := List.mem_of_mem_take (i := k + 1) (by rw [htk]; simp)
                have := List.all_eq_true.1 hall c hm
                rw [hdg] at this
                cases this)
            have hV := hf0.out hE.out
            unfold digB at hdg
            rw [Bool.and_eq_false_iff, decide_eq_false_iff_not, decide_eq_false_iff_not] at hdg
            clear htk htl
            rcases hdg with h48 | h57
            · have z1 : decide ((c.toNat : Int) < 48) = true := by simp; omega
              clear h48
              go_wp2_with fail
              exact bodyPost_ret (v := .tuple #[.int .i64 0, .bool false]) (by simp [results, Tryd.results58, go_sem]) rfl ⟨⟨0, by rw [hE.out], hV⟩, rfl⟩
            · by_cases h48 : c.toNat < 48
              · have z1 : decide ((c.toNat : Int) < 48) = true := by simp; omega
                clear h48 h57
                go_wp2_with fail
                exact bodyPost_ret (v := .tuple #[.int .i64 0, .bool false]) (by simp [results, Tryd.results58, go_sem]) rfl ⟨⟨0, by rw [hE.out], hV⟩, rfl⟩
              · have z1 : decide ((c.toNat : Int) < 48) = false := by simp; omega
                have z2 : decide ((57 : Int) < (c.toNat : Int)) = true := by simp; omega
                clear h48 h57
                go_wp2_with fail
                exact bodyPost_ret (v := .tuple #[.int .i64 0, .bool false]) (by simp [results, Tryd.results58, go_sem]) rfl ⟨⟨0, by rw [hE.out], hV⟩, rfl⟩
          · obtain ⟨b1, b2⟩ := digB_bd hdg
            obtain ⟨u, hu, w1, w2, w3, w4⟩ := numV_step t c.toNat htl b1 b2
            have hS : Hid (((by_ s).take (k + 1)).all digB = true ∧ numV ((by_ s).take (k + 1)) = u) := Lib.hid (by
              rw [htk, List.all_append, hrr.out.2.1, numV_snoc, hrr.out.2.2, hu]
              simp [hdg])
            have z1 : decide ((c.toNat : Int) < 48) = false := by simp; omega
            have z2 : decide ((57 : Int) < (c.toNat : Int)) = false := by simp; omega
            clear hdg htk htl hu b1 b2
            go_wp2_with fail
            go_roundg (n - (k + 1))
            case measure => have := hrr.out.1; omega
            case rel => exact ⟨k + 1, u, by omega, by go_num, rfl, Lib.hid ⟨rfl, hS.out⟩, rfl⟩
        · have hfull : (by_ s).take k = by_ s := List.take_of_length_le (by rw [hl]; omega)
          have hE : Hid (R = true) := Lib.hid (by rw [hR2.out, ← hfull]; exact hrr.out.2.1)
          have ht : numV (by_ s) = t := by rw [← hfull]; exact hrr.out.2.2
          have hV : Hid (∀ q, intO (by_ s) = some q → (t : Int) = (q : Int)) := Lib.hid fun q h => by rw [← ht]; exact hVn.out q h
          clear hfull ht
          go_wp2_with fail
          exact bodyPost_ret (v := .tuple #[.int .i64 (t : Int), .bool true]) (by simp [results, Tryd.results58, go_sem]) rfl ⟨⟨(t : Int), by rw [hE.out], hV⟩, rfl⟩
  cases hz : (decide (1 < s.size) && (c == 48))
  · exact main.out hz
  · have h2 : 1 < s.size := of_decide_eq_true (Bool.and_eq_true _ _ ▸ hz).1
    have hf : R = false := by
      rw [← hr]
      have : (decide (1 < s.size) && some c == some 48) = true := by rw [← hz]; congr 1
      rw [this]
      simp
    have hE := Lib.hid hf
    have hV := hVf hf
    have hc48 : c = 48 := eq_of_beq (Bool.and_eq_true _ _ ▸ hz).2
    subst hc48
    clear hr hR hVf hf hl hhd main hz
    go_enter Tryd.func58, Tryd.ntmps58
    go_wp2_with fail
    exact bodyPost_ret (v := .tuple #[.int .i64 0, .bool false]) (by simp [results, Tryd.results58, go_sem]) rfl ⟨⟨0, by rw [hE.out], hV⟩, rfl⟩

theorem wordcell' {w : World} {b off B : Nat} {ws : List ByteArray} (h : RowAt encS 1 B w (some ⟨b, off, none⟩) ws) (k : Nat) (hk : k < ws.length) : w.cell? ⟨b, off + k, none⟩ = some (.string ws[k]) := by
  obtain ⟨b', off', e, hc, _⟩ := h.one (f := fun s => .string s) k hk
  simp only [Option.some.injEq, Addr.mk.injEq, and_true] at e
  obtain ⟨rfl, rfl⟩ := e
  exact hc
theorem ext_by (s : ByteArray) (i j : Nat) : by_ (s.extract i j) = ((by_ s).drop i).take (j - i) := Lib.extract_data s i j
set_option maxRecDepth 100000 in
set_option maxHeartbeats 4000000 in
theorem refread_v (s : ByteArray) (hs : s.size ≤ 1000000) (w : World) :
    Calls Tryd.prog 43 #[.string s] w fun e w' => (∃ (d k : Int) (nm : ByteArray) (sv : Int) (ok : Bool), e = .returned (.tuple #[.agg #[.int .i64 d, .int .i64 k, .string nm], .int .i64 sv, .bool ok]) ∧ Hid (∀ x t, readO (by_ s) = some (x, t) → ok = true ∧ x = ⟨d, k, nm⟩ ∧ sv = (t : Int)) ∧ Hid (readO (by_ s) = none → ok = false) ∧ Hid (nm.size ≤ s.size)) ∧ Below w.heap.size w w' := by
  obtain ⟨iS, hs0, hs1, hs2, hs3⟩ := info_parts infoStr
  obtain ⟨n, hn⟩ : ∃ n, s.size = n := ⟨_, rfl⟩
  have hl : Hid ((by_ s).length = n) := Lib.hid (by rw [by_len]; exact hn)
  have hgo : Hid (∀ k, k < n → ∃ c : UInt8, ∃ h : k < s.size, s[k]'h = c ∧ (by_ s).drop k = c :: (by_ s).drop (k + 1)) := Lib.hid fun k hk => ⟨s[k]'(by omega), by omega, rfl, List.drop_eq_getElem_cons (by have := hl.out; omega)⟩
  have hn6 : n ≤ 1000000 := by omega
  go_enter Tryd.func43, Tryd.ntmps43
  go_upto_region 1 with fail
  generalize hWW : World.alloc _ _ = W0
  have kz : At W0 w.heap.size 24 #[.int .i64 0, .int .i64 0, .string ⟨#[]⟩] := by rw [← hWW]; exact At.new' rfl
  have HB : Below w.heap.size w W0 := by rw [← hWW]; exact below_al (Below.refl _ _) _
  have hWk : Hid (w.heap.size < W0.heap.size) := Lib.hid kz.lt
  have hWz : Hid (w.heap.size ≤ W0.heap.size) := Lib.hid HB.size
  have hW1 : Hid (W0.heap.size = w.heap.size + 1) := Lib.hid (by rw [← hWW]; exact Array.size_push _)
  clear hWW
  go_wp2_with fail
  go_loopg [7, 6, 5] (n + 2) (fun g i fr v0 wr => ∃ (k p : Nat) (ws : List ByteArray) (v : Value), v = v0 ∧ k ≤ n + 1 ∧ i = .int .i64 (k : Int) ∧ fr = .int .i64 (p : Int) ∧ Hid (g = n + 1 - k + 1 ∧ ws.length ≤ k ∧ (k ≤ n → p ≤ k ∧ noB 32 (((by_ s).drop p).take (k - p)) ∧ ws.map by_ ++ splitB 32 ((by_ s).drop p) = splitB 32 (by_ s)) ∧ (n < k → ws.map by_ = splitB 32 (by_ s))) ∧ Below w.heap.size w wr ∧ At wr w.heap.size 24 #[.int .i64 0, .int .i64 0, .string ⟨#[]⟩] ∧ Hid (wr.ownsRow W0.heap.size 9 1 v ws.length (ws.flatMap encS)))
  case atStart => exact ⟨0, 0, [], _, rfl, by omega, rfl, rfl, Lib.hid ⟨by omega, by simp, fun _ => ⟨Nat.le_refl _, by simpa using noB_nil 32, by simp⟩, fun h => absurd h (by omega)⟩, HB, kz, Lib.hid (World.ownsRow_nil _ _ _ _)⟩
  case round =>
    clear HB kz
    obtain ⟨k, p, ws, v, rfl, hk, rfl, rfl, hr, HB, kz, ho⟩ := hrel
    by_cases hkn : k ≤ n
    · obtain ⟨hpk, hnb, hsp⟩ := hr.out.2.2.1 hkn
      have hnb' := Lib.hid hnb
      have hsp' := Lib.hid hsp
      have hwl : Hid (ws.length ≤ 2000000) := Lib.hid (by have := hr.out.2.1; omega)
      have hwk : Hid (ws.length ≤ k) := Lib.hid hr.out.2.1
      have hg0 : Hid (gk = n + 1 - k + 1) := Lib.hid hr.out.1
      obtain ⟨x, hx⟩ : ∃ x, s.extract p k = x := ⟨_, rfl⟩
      have hxb : Hid (by_ x = ((by_ s).drop p).take (k - p)) := Lib.hid (by rw [← hx]; exact ext_by s p k)
      clear hnb hsp hr
      by_cases hlt : k < n
      · obtain ⟨c, hks, hc, hdr⟩ := hgo.out k hlt
        have hdd : Hid ((by_ s).drop p = ((by_ s).drop p).take (k - p) ++ c :: (by_ s).drop (k + 1)) := Lib.hid (by
          have h1 := List.take_append_drop (k - p) ((by_ s).drop p)
          rw [List.drop_drop, show p + (k - p) = k by omega, hdr] at h1
          exact h1.symm)
        have hkn1 : ((k : Int) == (n : Int)) = false := by simp; omega
        have w1 : IntKind.i64.wrap ((k : Int) + 1) = ((k + 1 : Nat) : Int) := by rw [IntWalk.i64_in _ (by omega)]; omega
        clear hdr
        by_cases h32 : c = 32
        · have hc32 : ((c.toNat : Int) == 32) = true := by rw [h32]; rfl
          have hS : Hid ((ws ++ [x]).map by_ ++ splitB 32 ((by_ s).drop (k + 1)) = splitB 32 (by_ s)) := Lib.hid (by
            rw [← hsp'.out, hdd.out, h32, splitB_at _ hnb'.out, List.map_append, List.append_assoc, ← hxb.out]
            rfl)
          clear h32
          go_wp2_with (at_builtin; refine wpList_append_own_at _ rfl _ _ 76 rfl W0.heap.size 9 iS (.string ⟨#[]⟩) 1 16 Tryd.underlying76 hs0 hs1 hs2 hs3 rfl (by decide) _ _ _ rfl (World.ownsRow.alloc ho.out _) ⟨wr.heap.size, 0, none⟩ 1 1 [.string x] rfl rfl (cell_one_new _ _ _) (by intro u hu; simp at hu; subst hu; rfl) (by have := hwl.out; unfold maxLen; omega) (by have := hwl.out; omega) (by have := kz.lt; have := hW1.out; simp; omega) ?_)
          intro v' w1 ho1 hg1 hnil hloc
          have hg2 : wr.grownBy w1 v.ownBlock := (World.grownBy_alloc _ _ _).trans hg1
          have hb1 : Below w.heap.size w w1 := HB.grown hg2 (by have := HB.size; omega) (fun j hj => Nat.le_trans hWz.out (own_lt ho.out hj).2)
          have kz1 := at_grown kz hg2 (fun h => by have := (own_lt ho.out h).2; have := hWk.out; omega)
          have ho2 : Hid (w1.ownsRow W0.heap.size 9 1 v' (ws ++ [x]).length ((ws ++ [x]).flatMap encS)) := Lib.hid (by
            rw [List.length_append, List.flatMap_append]
            exact ho1)
          clear hg1 hg2 hnil hloc ho1
          go_wp2_with fail
          go_roundg (n + 1 - (k + 1) + 1)
          case measure => have := hg0.out; omega
          case rel => exact ⟨k + 1, k + 1, ws ++ [x], v', rfl, by omega, by go_num, by go_num, Lib.hid ⟨rfl, by have := hwk.out; simp; omega, fun _ => ⟨Nat.le_refl _, by simpa using noB_nil 32, hS.out⟩, fun h => absurd h (by omega)⟩, hb1, kz1, ho2⟩
        · have hc32 : ((c.toNat : Int) == 32) = false := by
            rw [beq_eq_false_iff_ne]
            intro h
            apply h32
            apply UInt8.toNat_inj.1
            have : (32 : UInt8).toNat = 32 := rfl
            omega
          have hN : Hid (noB 32 (((by_ s).drop p).take (k + 1 - p))) := Lib.hid (by
            have e : ((by_ s).drop p).take (k + 1 - p) = ((by_ s).drop p).take (k - p) ++ [c] := by
              have hz : (((by_ s).drop p).take (k - p)).length = k - p := by
                rw [List.length_take, List.length_drop]
                have := hl.out
                omega
              have h1 := congrArg (List.take (k + 1 - p)) hdd.out
              obtain ⟨A, hA⟩ : ∃ A, ((by_ s).drop p).take (k - p) = A := ⟨_, rfl⟩
              rw [hA] at h1 hz ⊢
              rw [h1, List.take_append, hz, List.take_of_length_le (l := A) (by omega), show k + 1 - p - (k - p) = 1 by omega]
              rfl
            rw [e, noB_app]
            exact ⟨hnb'.out, noB_cons.2 ⟨h32, noB_nil _⟩⟩)
          clear h32
          go_wp2_with fail
          go_roundg (n + 1 - (k + 1) + 1)
          case measure => have := hg0.out; omega
          case rel => exact ⟨k + 1, p, ws, v, rfl, by omega, by go_num, rfl, Lib.hid ⟨rfl, by have := hwk.out; omega, fun _ => ⟨by omega, hN.out, hsp'.out⟩, fun h => absurd h (by omega)⟩, HB, kz, ho⟩
      · obtain rfl : k = n := by omega
        have hS : Hid ((ws ++ [x]).map by_ = splitB 32 (by_ s)) := Lib.hid (by
          have hz : ((by_ s).drop p).take (k - p) = (by_ s).drop p := List.take_of_length_le (by rw [List.length_drop]; have := hl.out; omega)
          have h1 := hnb'.out
          have h2 := hxb.out
          rw [hz] at h1 h2
          rw [← hsp'.out, splitB_no h1, List.map_append, ← h2]
          rfl)
        have hkn1 : ((k : Int) == (k : Int)) = true := by simp
        have w1 : IntKind.i64.wrap ((k : Int) + 1) = ((k + 1 : Nat) : Int) := by rw [IntWalk.i64_in _ (by omega)]; omega
        go_wp2_with (at_builtin; refine wpList_append_own_at _ rfl _ _ 76 rfl W0.heap.size 9 iS (.string ⟨#[]⟩) 1 16 Tryd.underlying76 hs0 hs1 hs2 hs3 rfl (by decide) _ _ _ rfl (World.ownsRow.alloc ho.out _) ⟨wr.heap.size, 0, none⟩ 1 1 [.string x] rfl rfl (cell_one_new _ _ _) (by intro u hu; simp at hu; subst hu; rfl) (by have := hwl.out; unfold maxLen; omega) (by have := hwl.out; omega) (by have := kz.lt; have := hW1.out; simp; omega) ?_)
        intro v' w1 ho1 hg1 hnil hloc
        have hg2 : wr.grownBy w1 v.ownBlock := (World.grownBy_alloc _ _ _).trans hg1
        have hb1 : Below w.heap.size w w1 := HB.grown hg2 (by have := HB.size; omega) (fun j hj => Nat.le_trans hWz.out (own_lt ho.out hj).2)
        have kz1 := at_grown kz hg2 (fun h => by have := (own_lt ho.out h).2; have := hWk.out; omega)
        have ho2 : Hid (w1.ownsRow W0.heap.size 9 1 v' (ws ++ [x]).length ((ws ++ [x]).flatMap encS)) := Lib.hid (by
          rw [List.length_append, List.flatMap_append]
          exact ho1)
        clear hg1 hg2 hnil hloc ho1
        go_wp2_with fail
        go_roundg 1
        case measure => have := hg0.out; omega
        case rel => exact ⟨k + 1, k + 1, ws ++ [x], v', rfl, by omega, by go_num, by go_num, Lib.hid ⟨by omega, by have := hwk.out; simp; omega, fun h => absurd h (by omega), fun _ => hS.out⟩, hb1, kz1, ho2⟩
    · have hS : Hid (ws.map by_ = splitB 32 (by_ s)) := Lib.hid (hr.out.2.2.2 (by omega))
      have hk1 : k = n + 1 := by omega
      have hkk : decide ((k : Int) ≤ (n : Int)) = false := by simp; omega
      have hL := Lib.hid (word_len hS.out)
      obtain ⟨aw, cw, hsh, hlw, hcw, hrow, -⟩ := (show Row wr 9 1 encS v ws from ⟨ho.out.1, ho.out.2.imp id fun ⟨g, cap, cur, h1, _, h3⟩ => ⟨g, cap, cur, h1, Nat.zero_le _, h3⟩⟩).view encS_len
      subst hsh
      have hrow' := Lib.hid hrow
      have hll := hl.out
      clear hr hrow hk
      by_cases h4 : ws.length = 4
      rotate_left
      · have hE : Hid (readO (by_ s) = none) := Lib.hid (readO_len (by rw [← hS.out, List.length_map]; exact h4))
        have h4' : ((ws.length : Int) != 4) = true := by simp; omega
        clear hS hL h4 hll
        obtain ⟨z0, z1, z2⟩ := kz.three
        have f0 := kz.f 0
        have f1 := kz.f 1
        have f2 := kz.f 2
        have Lz := kz.lt
        go_wp2_with fail
        generalize hWW : World.setCell _ _ _ = WW
        have kz' : At WW w.heap.size 24 #[.int .i64 0, .int .i64 0, .string ⟨#[]⟩] := by rw [← hWW]; simpa using ((kz.put 0 (.int .i64 0)).put 1 (.int .i64 0)).put 2 (.string ⟨#[]⟩)
        have HB' : Below w.heap.size w WW := by rw [← hWW]; exact below_set (below_set (below_set HB (Nat.le_refl _) _) (Nat.le_refl _) _) (Nat.le_refl _) _
        clear hWW z0 z1 z2 f0 f1 f2 kz HB
        obtain ⟨g0, g1, g2⟩ := kz'.three
        exact bodyPost_ret (v := .tuple #[.agg #[.int .i64 0, .int .i64 0, .string ⟨#[]⟩], .int .i64 0, .bool false]) (by simp [results, Tryd.results43, go_sem, g0, g1, g2]) rfl ⟨⟨0, 0, ⟨#[]⟩, 0, false, rfl, Lib.hid (fun x t h => by rw [hE.out] at h; cases h), Lib.hid (fun _ => rfl), Lib.hid (Nat.zero_le _)⟩, HB'⟩
      obtain ⟨A, Bk, C, D, rfl⟩ := four_of h4
      have bA := hL.out A (by simp)
      have bB := hL.out Bk (by simp)
      have bC := hL.out C (by simp)
      have bD := hL.out D (by simp)
      obtain ⟨Hb, Ho, hHa, _⟩ := hrow'.out 0 (by simp)
      subst hHa
      have k0 := wordcell' hrow'.out 0 (by simp)
      have k1 := wordcell' hrow'.out 1 (by simp)
      have k2 := wordcell' hrow'.out 2 (by simp)
      have k3 := wordcell' hrow'.out 3 (by simp)
      simp only [List.getElem_cons_zero, List.getElem_cons_succ, Nat.add_zero] at k0 k1 k2 k3
      have hs4 : splitB 32 (by_ s) = [by_ A, by_ Bk, by_ C, by_ D] := by rw [← hS.out]; rfl
      have HN := Lib.hid (fun u => refisName_any C (by omega) u)
      clear h4 hS hL
      cases hnb : nameB (by_ C)
      · rw [hnb] at HN
        have hE : Hid (readO (by_ s) = none) := Lib.hid (readO_name hs4 hnb)
        clear k0 k1 k3 hs4 hnb hll
        go_wp2_with fail
        refine (HN.out _).mono ?_
        rintro e w4 ⟨rfl, rfl⟩
        clear k2 HN
        obtain ⟨z0, z1, z2⟩ := kz.three
        have f0 := kz.f 0
        have f1 := kz.f 1
        have f2 := kz.f 2
        have Lz := kz.lt
        go_wp2_with fail
        generalize hWW : World.setCell _ _ _ = WW
        have kz' : At WW w.heap.size 24 #[.int .i64 0, .int .i64 0, .string ⟨#[]⟩] := by rw [← hWW]; simpa using ((kz.put 0 (.int .i64 0)).put 1 (.int .i64 0)).put 2 (.string ⟨#[]⟩)
        have HB' : Below w.heap.size w WW := by rw [← hWW]; exact below_set (below_set (below_set HB (Nat.le_refl _) _) (Nat.le_refl _) _) (Nat.le_refl _) _
        clear hWW z0 z1 z2 f0 f1 f2 kz HB
        obtain ⟨g0, g1, g2⟩ := kz'.three
        exact bodyPost_ret (v := .tuple #[.agg #[.int .i64 0, .int .i64 0, .string ⟨#[]⟩], .int .i64 0, .bool false]) (by simp [results, Tryd.results43, go_sem, g0, g1, g2]) rfl ⟨⟨0, 0, ⟨#[]⟩, 0, false, rfl, Lib.hid (fun x t h => by rw [hE.out] at h; cases h), Lib.hid (fun _ => rfl), Lib.hid (Nat.zero_le _)⟩, HB'⟩
      rw [hnb] at HN
      obtain ⟨g1, g2⟩ := readO_four hs4 hnb
      have hE1 := Lib.hid g1
      have hE2 := Lib.hid g2
      have hcl := Lib.hid (show C.size ≤ s.size by omega)
      clear hs4 hnb g1 g2
      obtain ⟨okA, hoA⟩ : ∃ okA, (intO (by_ A)).isSome = okA := ⟨_, rfl⟩
      obtain ⟨okB, hoB⟩ : ∃ okB, (intO (by_ Bk)).isSome = okB := ⟨_, rfl⟩
      obtain ⟨okD, hoD⟩ : ∃ okD, (intO (by_ D)).isSome = okD := ⟨_, rfl⟩
      have HA := Lib.hid (fun w => refint_v A (by omega) w)
      have HBk := Lib.hid (fun w => refint_v Bk (by omega) w)
      have HD := Lib.hid (fun w => refint_v D (by omega) w)
      rw [hoA] at HA hE1
      rw [hoB] at HBk hE1
      rw [hoD] at HD hE1
      clear hoA hoB hoD bA bB bC bD hll
      go_wp2_with fail
      refine (HN.out _).mono ?_
      rintro e w4 ⟨rfl, rfl⟩
      clear HN
      go_wp2_with fail
      refine (HA.out _).mono ?_
      rintro e w5 ⟨⟨nA, rfl, vA⟩, rfl⟩
      go_wp2_with fail
      refine (HBk.out _).mono ?_
      rintro e w6 ⟨⟨nB, rfl, vB⟩, rfl⟩
      go_wp2_with fail
      refine (HD.out _).mono ?_
      rintro e w7 ⟨⟨nD, rfl, vD⟩, rfl⟩
      have hP : Hid (∀ x t, readO (by_ s) = some (x, t) → (okA && okB && okD) = true ∧ x = ⟨nA, nB, C⟩ ∧ nD = (t : Int)) := Lib.hid (by
        intro x t h
        obtain ⟨p, r, h1, h2, h3, rfl⟩ := hE2.out x t h
        have h4 := hE1.out
        rw [h] at h4
        refine ⟨h4.symm, ?_, vD.out _ h3⟩
        rw [vA.out _ h1, vB.out _ h2])
      have hQ : Hid (readO (by_ s) = none → (okA && okB && okD) = false) := Lib.hid (fun h => by
        have h4 := hE1.out
        rw [h] at h4
        exact h4.symm)
      clear hE1 hE2 vA vB vD k0 k1 k3 HA HBk HD
      cases okA <;> cases okB <;> cases okD
      all_goals
        obtain ⟨z0, z1, z2⟩ := kz.three
        have f0 := kz.f 0
        have f1 := kz.f 1
        have f2 := kz.f 2
        have Lz := kz.lt
        go_wp2_with fail
        generalize hWW : World.setCell _ _ _ = WW
        have kz' : At WW w.heap.size 24 #[.int .i64 nA, .int .i64 nB, .string C] := by rw [← hWW]; simpa using ((kz.put 0 (.int .i64 nA)).put 1 (.int .i64 nB)).put 2 (.string C)
        have HB' : Below w.heap.size w WW := by rw [← hWW]; exact below_set (below_set (below_set HB (Nat.le_refl _) _) (Nat.le_refl _) _) (Nat.le_refl _) _
        clear hWW z0 z1 z2 f0 f1 f2 kz HB
        obtain ⟨g0, g1, g2⟩ := kz'.three
        exact bodyPost_ret (v := .tuple #[.agg #[.int .i64 nA, .int .i64 nB, .string C], .int .i64 nD, .bool _]) (by simp [results, Tryd.results43, go_sem, g0, g1, g2]) rfl ⟨⟨nA, nB, C, nD, _, rfl, hP, hQ, hcl⟩, HB'⟩

end Go.Proofs.YtdcfpopbnkafaaaDoor
