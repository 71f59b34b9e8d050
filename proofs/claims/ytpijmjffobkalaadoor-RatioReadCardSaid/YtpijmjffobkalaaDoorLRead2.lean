/- RatioRead: the walk joined with the plain laws of sums and texts. -/
import Derived.Test.YtpijmjffobkalaaDoorLRead
import Derived.Test.YtpijmjffobkalaaDoorLReadN
import Derived.Test.YtpijmjffobkalaaDoorRaP4
import Derived.Test.YtpijmjffobkalaaDoorLTxt
import Derived.WideShapes
namespace Go.Proofs.YtpijmjffobkalaaDoor
open Go.ChangeShapes Go.WideShapes Go.ChangeAt Go.RowKit

theorem slice_form {P : Program} {w : World} {r : Reach} {base : Nat} {t e : TypeId} {ao : Option Addr} {len cap : Nat} (ht : P.underlying t = some (.slice e)) (h : Value.okWide P w r base t (.slice ao len cap)) : (ao = none ∧ len = 0 ∧ cap = 0) ∨ ∃ b off, ao = some ⟨b, off, none⟩ := by
  simp only [Value.okWide, ht, Cell.okWide] at h
  rcases ao with _ | ⟨b, off, sp⟩
  · refine .inl ⟨rfl, ?_⟩
    unfold Cell.ok at h
    rw [ht] at h
    rcases len with _ | len
    · rcases cap with _ | cap
      · exact ⟨rfl, rfl⟩
      · exact h.elim
    · exact h.elim
  · unfold Cell.ok at h
    rw [ht] at h
    obtain ⟨-, -, -, h, -⟩ := h
    refine .inr ⟨b, off, ?_⟩
    have h : sp = none := h
    rw [h]
theorem txt_len {n d : Int} (h : fracB n d = true) : (txtL n d).length ≤ 50 := by
  have g := fracB_iff.1 h
  have la := Lib.itoa_length_le n (by omega) (by omega)
  have ld := Lib.itoa_length_le d (by omega) (by omega)
  unfold txtL
  rw [List.length_append]
  split
  · simp only [List.length_nil]; omega
  · simp only [List.length_cons]; omega
theorem FrAt.take {B : Nat} {w : World} {ao : Option Addr} {l : List (Int × Int)} (h : FrAt B w ao l) (k : Nat) : FrAt B w ao (l.take k) := by
  intro i hi
  have hi2 : i < l.length := by rw [List.length_take] at hi; omega
  obtain ⟨b, off, e, c0, c1, hlt⟩ := h i hi2
  refine ⟨b, off, e, ?_, ?_, hlt⟩
  · rw [c0, List.getElem_take]
  · rw [c1, List.getElem_take]
theorem FrAt.drop {B : Nat} {w : World} {b off : Nat} {l : List (Int × Int)} (h : FrAt B w (some ⟨b, off, none⟩) l) (k : Nat) : FrAt B w (some ⟨b, off + k * 2, none⟩) (l.drop k) := by
  intro i hi
  have hi2 : k + i < l.length := by rw [List.length_drop] at hi; omega
  obtain ⟨b', off', e, c0, c1, hlt⟩ := h (k + i) hi2
  simp only [Option.some.injEq, Addr.mk.injEq, and_true] at e
  obtain ⟨rfl, rfl⟩ := e
  refine ⟨b, off + k * 2, rfl, ?_, ?_, hlt⟩
  · rw [show off + k * 2 + i * 2 = off + (k + i) * 2 by omega, c0, List.getElem_drop]
  · rw [show off + k * 2 + i * 2 + 1 = off + (k + i) * 2 + 1 by omega, c1, List.getElem_drop]
theorem fr_none (B : Nat) (w : World) (ao : Option Addr) : FrAt B w ao [] := fun k hk => absurd hk (by simp)
theorem sumS_eta (l : List (Int × Int)) : frv (sumS l) = frv ((sumS l).1, (sumS l).2.1, (sumS l).2.2) := rfl
theorem ratioRead_walk (an ad : Int) (s : ByteArray) (l : List (Int × Int)) (ao : Option Addr) (cap : Nat) (hl : l.length ≤ cap) (hc : cap ≤ 9223372036854775806) (c : Int) (hcw : (Lit.int .u8 c).wf = true) (w : World) (ha : FrAt w.heap.size w ao l) (hf : (ao = none ∧ l.length = 0 ∧ cap = 0) ∨ ∃ b off, ao = some ⟨b, off, none⟩) (he : Env w) :
    Calls Tryd.prog 10 #[.agg #[.int .i64 an, .int .i64 ad], .string s, .slice ao l.length cap, .int .u8 c] w fun e w' => e = .returned (.bool true) ∧ Below w.heap.size w w' := by
  have fr : ∀ u, Below w.heap.size w u → FrAt u.heap.size u ao l := fun u hb => (ha.bel (Nat.le_refl _) hb).mono hb.size
  have lim : 0 ≤ c ∧ c ≤ 255 := by
    have e1 : IntKind.u8.min = 0 := by decide
    have e2 : IntKind.u8.max = 255 := by decide
    have := hcw
    simp only [Lit.wf, Bool.and_eq_true, decide_eq_true_eq, e1, e2] at this
    omega
  obtain ⟨c, rfl⟩ : ∃ m : Nat, c = (m : Int) := ⟨c.toNat, by omega⟩
  have hc255 : c ≤ 255 := by omega
  clear lim hcw
  obtain ⟨p1, p2, p3, pk, hP, hp3, hp⟩ : ∃ (p1 p2 p3 : Int) (pk : Bool), frv (pvR (parO (by_ s))) = frv (p1, p2, p3) ∧ ((pk = true → p3 = 0) ∧ (pk = false → p3 = 7)) ∧ (pk = true → fracB p1 p2 = true ∧ txtL p1 p2 = by_ s) := by
    cases ho : parO (by_ s) with
    | none => exact ⟨0, 0, 7, false, rfl, ⟨fun h => (by cases h), fun _ => rfl⟩, fun h => by cases h⟩
    | some x =>
      obtain ⟨n, d⟩ := x
      exact ⟨n, d, 0, true, rfl, ⟨fun _ => rfl, fun h => (by cases h)⟩, fun _ => parO_some ho⟩
  obtain ⟨st, te, HT, hte, hst⟩ : ∃ (st : ByteArray) (te : Int), (∀ u, Below w.heap.size w u → Calls Tryd.prog 34 #[.agg #[.int .i64 an, .int .i64 ad]] u fun e w' => e = .returned (.tuple #[.string st, .int .i64 te]) ∧ Below u.heap.size u w') ∧ ((fracB an ad = false → st = ⟨#[]⟩ ∧ te = 1) ∧ (fracB an ad = true → te = 0)) ∧ (fracB an ad = true → st = ⟨(txtL an ad).toArray⟩) := by
    cases hf : fracB an ad
    · exact ⟨⟨#[]⟩, 1, fun u _ => Text_bad an ad hf u, ⟨fun _ => ⟨rfl, rfl⟩, fun h => by cases h⟩, fun h => by cases h⟩
    · exact ⟨⟨(txtL an ad).toArray⟩, 0, fun u hb => Text_any an ad hf u (he.tab.bel hb), ⟨fun h => (by cases h), fun _ => rfl⟩, fun _ => rfl⟩
  have HW : Hid (∀ u, Below w.heap.size w u → Calls Tryd.prog 11 #[] u fun e w' => e = .returned (.bool true) ∧ Below u.heap.size u w') := Lib.hid fun u hb => awake_any u (he.tab.bel hb)
  have HP : Hid (s.size ≤ 100 → ∀ u, Below w.heap.size w u → Calls Tryd.prog 36 #[.string s] u fun e w' => e = .returned (frv (p1, p2, p3)) ∧ Below u.heap.size u w') := Lib.hid fun hs u hb => by rw [← hP]; exact parse_any s (by omega) u (he.bel hb)
  have HT1 : Hid (pk = true → ∀ u, Below w.heap.size w u → Calls Tryd.prog 34 #[.agg #[.int .i64 p1, .int .i64 p2]] u fun e w' => e = .returned (.tuple #[.string s, .int .i64 0]) ∧ Below u.heap.size u w') := Lib.hid fun h u hb => by
    have := Text_any p1 p2 (hp h).1 u (he.tab.bel hb)
    rwa [(hp h).2, by_mk] at this
  have HV1 : Hid (pk = true → ∀ u, Below w.heap.size w u → Calls Tryd.prog 15 #[.agg #[.int .i64 p1, .int .i64 p2]] u fun e w' => e = .returned (.bool true) ∧ Below u.heap.size u w') := Lib.hid fun h u hb => by
    have := fvalid_any p1 p2 u
    rwa [(hp h).1] at this
  have HV : Hid (fracB an ad = false → ∀ u, Below w.heap.size w u → Calls Tryd.prog 15 #[.agg #[.int .i64 an, .int .i64 ad]] u fun e w' => e = .returned (.bool false) ∧ Below u.heap.size u w') := Lib.hid fun h u hb => by
    have := fvalid_any an ad u
    rwa [h] at this
  have HP2 : Hid (fracB an ad = true → ∀ u, Below w.heap.size w u → Calls Tryd.prog 36 #[.string st] u fun e w' => e = .returned (frv (an, ad, 0)) ∧ Below u.heap.size u w') := Lib.hid fun h u hb => by
    have hb2 : by_ st = txtL an ad := by rw [hst h, mk_by]
    have hlen : st.size ≤ 1000 := by rw [← by_len, hb2]; have := txt_len h; omega
    have := parse_any st hlen u (he.bel hb)
    rwa [hb2, parO_txt h] at this
  have small : l.length ≤ 40 → l.length ≤ 1000 := fun h => by omega
  have hr : ∀ k, Hid (l.length ≤ 40 → ((sumS l).2.2 ≠ 0 → (sumS l).1 = 0 ∧ (sumS l).2.1 = 0) ∧ ((sumS l).2.2 = 0 → (sumS (l.take k)).2.2 = 0)) := fun k => Lib.hid fun h => ⟨fun h0 => by
      rcases sumS_or l (small h) with ⟨p, q, e, _⟩ | ⟨e, h1, _⟩
      · rw [e] at h0; exact absurd rfl h0
      · rw [h1]; exact ⟨rfl, rfl⟩, fun h0 => sum_first k (small h) h0⟩
  have HA : ∀ k, Hid (l.length ≤ 40 → (sumS l).2.2 = 0 → (sumS (l.drop k)).2.2 = 0 → ∀ u, Below w.heap.size w u → Calls Tryd.prog 12 #[.agg #[.int .i64 (sumS (l.take k)).1, .int .i64 (sumS (l.take k)).2.1], .agg #[.int .i64 (sumS (l.drop k)).1, .int .i64 (sumS (l.drop k)).2.1]] u fun e w' => e = .returned (frv ((sumS l).1, (sumS l).2.1, 0)) ∧ Below u.heap.size u w') := fun k => Lib.hid fun h h0 h2 u _ => by
    have h1 := sum_first k (small h) h0
    have := radd_any (sumS (l.take k)).1 (sumS (l.take k)).2.1 (sumS (l.drop k)).1 (sumS (l.drop k)).2.1 u
    rwa [sum_parts (p := (sumS l).1) (q := (sumS l).2.1) k (small h) (by rw [← h0]) (by rw [← h1]) (by rw [← h2])] at this
  have HC : Hid (l.length ≤ 40 → ∀ u, Below w.heap.size w u → Calls Tryd.prog 38 #[.slice ao l.length cap] u fun e w' => (∃ v, e = .returned v ∧ Hid (Own u.heap.size w' v l)) ∧ Below u.heap.size u w') := Lib.hid fun h u hb => by
    refine (clone_any l ao cap (small h) ?_ u.heap.size u (fr u hb)).mono ?_
    · rcases hf with ⟨h1, h2, _⟩ | h
      · exact .inl ⟨h1, List.length_eq_zero_iff.1 h2⟩
      · exact .inr h
    · rintro e w' ⟨⟨v, h1, h2⟩, h3⟩
      exact ⟨⟨v, h1, Lib.hid h2⟩, h3⟩
  have HR : Hid (l.length ≤ 40 → ∀ (u : World) (v : Value) (B : Nat), B ≤ u.heap.size → Own B u v l → Calls Tryd.prog 39 #[v] u fun e w' => (e = .returned (.tuple #[]) ∧ ∃ ao cap, v = .slice ao l.length cap ∧ Hid (l.length ≤ cap ∧ cap ≤ 9223372036854775807 ∧ FrAt w'.heap.size w' ao l.reverse)) ∧ Below B u w') := Lib.hid fun h u v B hB ho => by
    refine (reverse_any l v (small h) B u ho hB).mono ?_
    rintro e w' ⟨⟨h1, ao, cp, h2, h3, h6, h4⟩, h5⟩
    rw [List.length_reverse] at h2 h3
    exact ⟨⟨h1, ao, cp, h2, Lib.hid ⟨h3, h6, h4⟩⟩, h5⟩
  have HB4 : Hid (l.length ≤ 40 → (sumS l).2.2 = 0 → ((sumS l.reverse).2.2 = 5 ∨ (sumS l.reverse).2.2 = 0 ∧ (sumS l.reverse).1 = (sumS l).1 ∧ (sumS l.reverse).2.1 = (sumS l).2.1)) := Lib.hid fun h h0 => by
    rcases sum_turned (p := (sumS l).1) (q := (sumS l).2.1) (small h) (by rw [← h0]) with e | e
    · rw [e]; exact .inr ⟨rfl, rfl, rfl⟩
    · rw [e]; exact .inl rfl
  have HS4 : Hid (l.length ≤ 40 → ∀ (u : World) (ao : Option Addr) (cp : Nat), l.length ≤ cp ∧ cp ≤ 9223372036854775807 ∧ FrAt u.heap.size u ao l.reverse → Calls Tryd.prog 31 #[.slice ao l.length cp] u fun e w' => e = .returned (frv ((sumS l.reverse).1, (sumS l.reverse).2.1, (sumS l.reverse).2.2)) ∧ Below u.heap.size u w') := Lib.hid fun _ u ao cp h => by
    have := sum_any7 l.reverse ao cp (by rw [List.length_reverse]; exact h.1) h.2.1 u h.2.2
    rwa [List.length_reverse] at this
  rcases hf with ⟨rfl, h0, rfl⟩ | ⟨b, off, rfl⟩
  · obtain rfl := List.length_eq_zero_iff.1 h0
    have S0 : Hid (0 ≤ 40 → ∀ u, Below w.heap.size w u → Calls Tryd.prog 31 #[.slice none 0 0] u fun e w' => e = .returned (frv ((sumS []).1, (sumS []).2.1, (sumS []).2.2)) ∧ Below u.heap.size u w') := Lib.hid fun _ u hb => sum_any [] none 0 hl hc u (fr u hb)
    exact read_nil c hc255 [] an ad s pk (fracB an ad) p1 p2 p3 st te _ _ _ _ _ _ _ _ _ _ _ _ w HW HP (Lib.hid hp3) HT1 HV1 (Lib.hid HT) HV (Lib.hid hte) HP2 S0 S0 S0 (hr 0) (HA 0) HC HR HB4 HS4
  · obtain ⟨k, hk⟩ : ∃ k : Nat, c % (l.length + 1) = k := ⟨_, rfl⟩
    have hkn : k ≤ l.length := by have := Nat.mod_lt c (show 0 < l.length + 1 by omega); omega
    refine read_some b off l.length cap k c (by rw [← hk, Int.natCast_emod, Int.natCast_add]; rfl) hkn hc255 hl hc l an ad s pk (fracB an ad) p1 p2 p3 st te _ _ _ (sumS (l.take k)).1 (sumS (l.take k)).2.1 (sumS (l.take k)).2.2 (sumS (l.drop k)).1 (sumS (l.drop k)).2.1 (sumS (l.drop k)).2.2 _ _ _ w HW HP (Lib.hid hp3) HT1 HV1 (Lib.hid HT) HV (Lib.hid hte) HP2 (Lib.hid fun _ u hb => sum_any l _ cap hl hc u (fr u hb)) (Lib.hid fun _ u hb => ?_) (Lib.hid fun _ u o2 m c2 h hb => ?_) (hr k) (HA k) HC HR HB4 HS4
    · have hlen : (l.take k).length = k := by rw [List.length_take]; omega
      have := sum_any (l.take k) (some ⟨b, off, none⟩) cap (by omega) hc u ((fr u hb).take k)
      rwa [hlen] at this
    · rcases h with ⟨rfl, rfl, rfl⟩ | ⟨rfl, rfl, rfl, hck⟩
      · have hlen : (l.drop k).length = l.length - k := by rw [List.length_drop]
        have := sum_any (l.drop k) (some ⟨b, off + k * 2, none⟩) (cap - k) (by omega) (by omega) u ((fr u hb).drop k)
        rwa [hlen] at this
      · have hd : l.drop k = [] := List.drop_eq_nil_of_le (by omega)
        rw [hd]
        exact sum_any [] (some ⟨b, _, none⟩) 0 (Nat.le_refl _) (by omega) u (fr_none _ _ _)
end Go.Proofs.YtpijmjffobkalaaDoor
