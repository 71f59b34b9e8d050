/- site: replays; the walks of SiteReplays and SiteRecovered (joined). -/
import Derived.Test.YtpocmijfkjjboaaGreatDoorZa
import Derived.Test.YtpocmijfkjjboaaGreatDoorZb

/- Plain: a site after the entries of a log; what it keeps leads to it again. -/
set_option linter.unusedVariables false
namespace Go.Proofs.YtpocmijfkjjboaaGreatDoor
open Go.ChangeShapes Go.WideShapes Go.ChangeAt Go.RowKit

/-- Entries are done up to the first that is refused; its error number. -/
def playF : List Ent → St → Int × St
  | [], s => (0, s)
  | x :: l, s => if (doS s x).1 = 0 then playF l (doS s x).2 else ((doS s x).1, s)
theorem playF_go {x : Ent} {l : List Ent} {s : St} (h : (doS s x).1 = 0) : playF (x :: l) s = playF l (doS s x).2 := by rw [playF, if_pos h]
theorem playF_stop {x : Ent} {l : List Ent} {s : St} (h : (doS s x).1 ≠ 0) : playF (x :: l) s = ((doS s x).1, s) := by rw [playF, if_neg h]
theorem playF_app : ∀ (l m : List Ent) (s t : St), playF l s = (0, t) → playF (l ++ m) s = playF m t
  | [], m, s, t, h => by
    have h2 : s = t := by
      have := congrArg Prod.snd h
      exact this
    rw [List.nil_append, h2]
  | x :: l, m, s, t, h => by
    by_cases hx : (doS s x).1 = 0
    · rw [playF_go hx] at h
      rw [List.cons_append, playF_go hx]
      exact playF_app l m _ t h
    · rw [playF_stop hx] at h
      exact absurd (congrArg Prod.fst h) hx
theorem playF_pre : ∀ (l m : List Ent) (s t : St), playF (l ++ m) s = (0, t) → ∃ u, playF l s = (0, u)
  | [], m, s, t, h => ⟨s, rfl⟩
  | x :: l, m, s, t, h => by
    by_cases hx : (doS s x).1 = 0
    · rw [List.cons_append, playF_go hx] at h
      rw [playF_go hx]
      exact playF_pre l m _ t h
    · rw [List.cons_append, playF_stop hx] at h
      exact absurd (congrArg Prod.fst h) hx
theorem playF_kept : ∀ (l : List Ent) (s t : St), playF l s = (0, t) → t.kept = s.kept ++ l
  | [], s, t, h => by
    have h2 : s = t := congrArg Prod.snd h
    rw [h2, List.append_nil]
  | x :: l, s, t, h => by
    by_cases hx : (doS s x).1 = 0
    · rw [playF_go hx] at h
      rw [playF_kept l _ t h, doS_kept hx, List.append_assoc]
      rfl
    · rw [playF_stop hx] at h
      exact absurd (congrArg Prod.fst h) hx
theorem playF_ok : ∀ (l : List Ent) (s : St), s.ok → (∀ x ∈ l, x.name.size ≤ 60) → (playF l s).2.ok
  | [], s, h, _ => h
  | x :: l, s, h, hz => by
    by_cases hx : (doS s x).1 = 0
    · rw [playF_go hx]
      exact playF_ok l _ (doS_ok s h x (hz x (by simp))) (fun y hy => hz y (by simp [hy]))
    · rw [playF_stop hx]
      exact h
/-- All entries are tried. -/
def runF : List Ent → St → St
  | [], s => s
  | x :: l, s => runF l (doS s x).2
theorem last_le {l : List Ent} (h : l.Pairwise fun a b => a.day ≤ b.day) {a : Ent} (ha : a ∈ l) : a.day ≤ lastDay l := by
  rcases List.eq_nil_or_concat l with rfl | ⟨l', z, q⟩
  · cases ha
  · rw [List.concat_eq_append] at q
    subst q
    have e : lastDay (l' ++ [z]) = z.day := by unfold lastDay; simp
    rw [e]
    rw [List.pairwise_append] at h
    rcases List.mem_append.1 ha with q | q
    · exact h.2.2 a q z (by simp)
    · rw [List.mem_singleton] at q
      rw [q]
      exact Int.le_refl _
theorem logV_snoc {l : List Ent} {x : Ent} (h : logV l = true) (hx : logV [x] = true) (hl : l.length < 1000) (hd : ¬ (0 < l.length ∧ x.day < lastDay l)) : logV (l ++ [x]) = true := by
  unfold logV at h hx ⊢
  simp only [Bool.and_eq_true, decide_eq_true_eq] at h hx ⊢
  refine ⟨⟨by simp; omega, ?_⟩, ?_⟩
  · rw [List.all_append, h.1.2, hx.1.2]
    rfl
  · rw [List.pairwise_append]
    refine ⟨h.2, List.pairwise_singleton _ _, fun a ha b hb => ?_⟩
    rw [List.mem_singleton] at hb
    subst hb
    have h1 := last_le h.2 ha
    have h2 : 0 < l.length := List.length_pos_of_mem ha
    omega
theorem given_day {s : St} {x : Ent} (h : givenS s x = 0) : ¬ (0 < s.kept.length ∧ x.day < lastDay s.kept) := by
  intro hd
  unfold givenS at h
  split at h
  · cases h
  split at h
  · cases h
  first
    | exact absurd h (by decide)
    | (rw [if_pos hd] at h; cases h)
/-- What a site keeps leads to it from its beginning, and is a log. -/
structure Kept (s0 s : St) (n : Nat) : Prop where
  play : playF s.kept s0 = (0, s)
  val : logV s.kept = true
  len : s.kept.length ≤ n
theorem Kept.start {s0 : St} (h : s0.kept = []) : Kept s0 s0 0 := ⟨by rw [h]; rfl, by rw [h]; rfl, by rw [h]; exact Nat.le_refl _⟩
theorem Kept.step {s0 s : St} {n : Nat} (h : Kept s0 s n) (x : Ent) : Kept s0 (doS s x).2 (n + 1) := by
  by_cases hx : (doS s x).1 = 0
  · have hk := doS_kept hx
    have hg := (doS_yes hx).1
    refine ⟨?_, ?_, ?_⟩
    · rw [hk, playF_app _ _ _ _ h.play, playF_go hx]
      rfl
    · rw [hk]
      exact logV_snoc h.val (given_lt hg).2 (by have := (given_lt hg).1; omega) (given_day hg)
    · rw [hk, List.length_append, List.length_singleton]
      have := h.len
      omega
  · rw [doS_err hx]
    exact ⟨h.play, h.val, by have := h.len; omega⟩
theorem Kept.run {s0 : St} : ∀ (l : List Ent) (s : St) (n : Nat), Kept s0 s n → Kept s0 (runF l s) (n + l.length)
  | [], s, n, h => h
  | x :: l, s, n, h => by
    have := Kept.run l _ _ (h.step x)
    rw [List.length_cons, show n + (l.length + 1) = n + 1 + l.length by omega]
    exact this
end Go.Proofs.YtpocmijfkjjboaaGreatDoor

/- site: an object, and the reference's, apart from blocks that stay as they are; an entry done to it. -/
set_option linter.unusedVariables false
namespace Go.Proofs.YtpocmijfkjjboaaGreatDoor
open Go.ChangeShapes Go.WideShapes Go.ChangeAt Go.RowKit

/-- The blocks of Av stay as they are. -/
structure Kp (Av : Nat → Prop) (w w' : World) : Prop where
  os : w'.os = w.os
  tape : w'.tape = w.tape
  output : w'.output = w.output
  size : w.heap.size ≤ w'.heap.size
  block : ∀ b, Av b → w'.heap[b]? = w.heap[b]?
section
variable {Av : Nat → Prop} {a w w' u : World} {g h : Nat} {s t : St}
theorem Kp.refl (w : World) : Kp Av w w := ⟨rfl, rfl, rfl, Nat.le_refl _, fun _ _ => rfl⟩
theorem Kp.of_below (h : Below w.heap.size w w') (hav : ∀ b, Av b → b < w.heap.size) : Kp Av w w' := ⟨h.os, h.tape, h.output, h.size, fun b hb => h.block b (hav b hb)⟩
theorem Kp.trans (h : Kp Av a w) (k : Kp Av w w') : Kp Av a w' := ⟨k.os.trans h.os, k.tape.trans h.tape, k.output.trans h.output, Nat.le_trans h.size k.size, fun b hb => (k.block b hb).trans (h.block b hb)⟩
theorem Kp.then (h : Kp Av a w) (hav : ∀ b, Av b → b < a.heap.size) (k : Below w.heap.size w w') : Kp Av a w' := h.trans (Kp.of_below k fun b hb => Nat.lt_of_lt_of_le (hav b hb) h.size)
theorem Kp.below {B : Nat} (h : Kp Av w w') (hB : ∀ b, b < B → Av b) : Below B w w' := ⟨h.os, h.tape, h.output, h.size, fun k hk => h.block k (hB k hk)⟩
theorem Kp.of_frm {F : List (Option Nat)} (h : Frm F w w') (hd : ∀ b, Av b → some b ∉ F) (hav : ∀ b, Av b → b < w.heap.size) : Kp Av w w' := ⟨h.os, h.tape, h.output, h.size, fun b hb => h.block b (hav b hb) (hd b hb)⟩
theorem Kp.mono {Av' : Nat → Prop} (h : Kp Av w w') (hm : ∀ b, Av' b → Av b) : Kp Av' w w' := ⟨h.os, h.tape, h.output, h.size, fun b hb => h.block b (hm b hb)⟩
/-- A site in state s, apart from the blocks of Av; the reference's. -/
def Lone (Av : Nat → Prop) (w : World) (g : Nat) (s : St) : Prop := ∃ p, SiteW w g s p ∧ ∀ b, some b ∈ p.fp g → ¬ Av b
def RLone (Av : Nat → Prop) (w : World) (g : Nat) (s : St) : Prop := ∃ p, RefW w g s p ∧ ∀ b, some b ∈ p.fp g → ¬ Av b
theorem Lone.up (hb : Below w.heap.size w w') (hd : Lone Av w g s) : Lone Av w' g s := by
  obtain ⟨p, h1, h3⟩ := hd
  exact ⟨p, h1.bel hb, h3⟩
theorem RLone.up (hb : Below w.heap.size w w') (hd : RLone Av w g s) : RLone Av w' g s := by
  obtain ⟨p, h1, h3⟩ := hd
  exact ⟨p, h1.bel hb, h3⟩
theorem lone_do (hd : Lone Av u g s) (hav : ∀ b, Av b → b < u.heap.size) (hok : s.ok) (xd xk : Int) (xn : ByteArray) (hz : xn.size ≤ 60) :
    Calls Tryz.prog 11 #[.pointer (some ⟨g, 0, none⟩), .agg #[.int .i64 xd, .int .i64 xk, .string xn]] u fun e w' => e = .returned (.int .i64 (doS s ⟨xd, xk, xn⟩).1) ∧ Lone Av w' g (doS s ⟨xd, xk, xn⟩).2 ∧ Kp Av u w' := by
  obtain ⟨p, h1, h3⟩ := hd
  refine (do_any s hok xd xk xn hz g p u h1).mono ?_
  rintro e w' ⟨rfl, p', k1, k2, k3⟩
  refine ⟨rfl, ⟨p', k1, fun b hb ha => ?_⟩, Kp.of_frm k2 (fun b ha hn => h3 b hn ha) hav⟩
  rcases k3 b hb with r | r
  · exact h3 b r ha
  · have := hav b ha
    omega
theorem rlone_do (hd : RLone Av u h t) (hav : ∀ b, Av b → b < u.heap.size) (hok : t.ok) (xd xk : Int) (xn : ByteArray) (hz : xn.size ≤ 60) :
    Calls Tryz.prog 28 #[.pointer (some ⟨h, 0, none⟩), .agg #[.int .i64 xd, .int .i64 xk, .string xn]] u fun e w' => e = .returned (.int .i64 (doS t ⟨xd, xk, xn⟩).1) ∧ RLone Av w' h (doS t ⟨xd, xk, xn⟩).2 ∧ Kp Av u w' := by
  obtain ⟨p, h1, h3⟩ := hd
  refine (rdo_any t hok xd xk xn hz h p u h1).mono ?_
  rintro e w' ⟨rfl, p', k1, k2, k3⟩
  refine ⟨rfl, ⟨p', k1, fun b hb ha => ?_⟩, Kp.of_frm k2 (fun b ha hn => h3 b hn ha) hav⟩
  rcases k3 b hb with r | r
  · exact h3 b r ha
  · have := hav b ha
    omega
end
/-- What Replay answers: the error number; the state. -/
def repE (l : List Bun) (m : ByteArray) (b : List UInt8) : Int := if newOk l m = false then 1 else if decE b ≠ 0 then decE b else (playF (decL b) (st0 l m)).1
def repS (l : List Bun) (m : ByteArray) (b : List UInt8) : St := (playF (decL b) (st0 l m)).2
def RepPost (l : List Bun) (m : ByteArray) (b : List UInt8) (w : World) (e : Ending) (w' : World) : Prop :=
  (repE l m b ≠ 0 → e = .returned (.tuple #[.pointer none, .int .i64 (repE l m b)])) ∧ (repE l m b = 0 → ∃ g p, e = .returned (.tuple #[.pointer (some ⟨g, 0, none⟩), .int .i64 0]) ∧ SiteW w' g (repS l m b) p ∧ ∀ x, some x ∈ p.fp g → w.heap.size ≤ x) ∧ Below w.heap.size w w'
def RRepPost (l : List Bun) (m : ByteArray) (b : List UInt8) (w : World) (e : Ending) (w' : World) : Prop :=
  (repE l m b ≠ 0 → e = .returned (.tuple #[.pointer none, .int .i64 (repE l m b)])) ∧ (repE l m b = 0 → ∃ g p, e = .returned (.tuple #[.pointer (some ⟨g, 0, none⟩), .int .i64 0]) ∧ RefW w' g (repS l m b) p ∧ ∀ x, some x ∈ p.fp g → w.heap.size ≤ x) ∧ Below w.heap.size w w'
theorem decL_names (b : List UInt8) : ∀ x ∈ decL b, x.name.size ≤ 60 := by
  unfold decL
  split
  · obtain ⟨l, t, e, hg, _, _, _, _, _, hv⟩ := good_parts b
    rw [hg]
    intro x hx
    have := (WordsOk.of (logV_ent hv hx)).bd.2
    omega
  · simp
theorem decL_few (b : List UInt8) : (decL b).length ≤ 1000 := by
  unfold decL
  split
  · obtain ⟨l, t, e, hg, _, _, _, _, _, hv⟩ := good_parts b
    rw [hg]
    unfold logV at hv
    simp only [Bool.and_eq_true, decide_eq_true_eq] at hv
    exact hv.1.1
  · simp
theorem repE_new {l : List Bun} {m : ByteArray} (b : List UInt8) (h : newOk l m = false) : repE l m b = 1 := by unfold repE; rw [if_pos h]
theorem repE_dec {l : List Bun} {m : ByteArray} {b : List UInt8} (h : newOk l m = true) (hd : decE b ≠ 0) : repE l m b = decE b := by unfold repE; rw [if_neg (by rw [h]; decide), if_pos hd]
theorem repE_play {l : List Bun} {m : ByteArray} {b : List UInt8} (h : newOk l m = true) (hd : decE b = 0) : repE l m b = (playF (decL b) (st0 l m)).1 := by unfold repE; rw [if_neg (by rw [h]; decide), if_neg (by rw [hd]; decide)]
end Go.Proofs.YtpocmijfkjjboaaGreatDoor

/- site: Replay, and the reference's. -/
set_option linter.unusedVariables false
namespace Go.Proofs.YtpocmijfkjjboaaGreatDoor
open Go.ChangeShapes Go.WideShapes Go.ChangeAt Go.RowKit

set_option maxRecDepth 100000 in
set_option maxHeartbeats 2000000 in
theorem replay_any (l : List Bun) (m : ByteArray) (hm : m.size ≤ 60) (ao : Option Addr) (cap : Nat) (hl : l.length ≤ cap) (hc : cap ≤ 9223372036854775807) (hs : Hid (∀ x ∈ l, x.tag.size ≤ 60 ∧ x.mark.size ≤ 60)) (b : List UInt8) (v : Value) (hb0 : b.length ≤ 1000000) (w : World) (he : Env w) (ha : Hid (RowAt encB 4 w.heap.size w ao l)) (hv : IsB b v w) :
    Calls Tryz.prog 7 #[.slice ao l.length cap, .string m, v] w fun e w' => RepPost l m b w e w' := by
  obtain ⟨a, n, c, rfl, -, -⟩ := hv.shape
  have he0 := Lib.hid he
  have hv0 := Lib.hid hv
  have hbl := Lib.hid hb0
  have HN := Lib.hid (new_any l m hm ao cap hl hc hs w ha)
  have hok0 : Hid (newOk l m = true → (st0 l m).ok) := Lib.hid fun h => st0_ok l m h hs.out
  have hnm := Lib.hid (decL_names b)
  have hdl := Lib.hid (decL_few b)
  have hEd := Lib.hid (And.intro (@repE_new l m b) (And.intro (@repE_dec l m b) (@repE_play l m b)))
  have hSd : Hid (repS l m b = (playF (decL b) (st0 l m)).2) := Lib.hid rfl
  obtain ⟨N1, hN1⟩ : ∃ N1, l.length = N1 := ⟨_, rfl⟩
  rw [hN1] at HN hl ⊢
  obtain ⟨E, hE⟩ : ∃ E, decE b = E := ⟨_, rfl⟩
  have HD := Lib.hid (fun (w1 : World) (HB : Below w.heap.size w w1) => decode_v b _ (.inl hbl.out) w1 (he0.out.bel HB) (hv0.out.up HB))
  rw [hE] at HD hEd
  obtain ⟨nk, hnk⟩ : ∃ nk, newOk l m = nk := ⟨_, rfl⟩
  have HN2 : Hid (Calls Tryz.prog 10 #[.slice ao N1 cap, .string m] w fun e w' => (nk = false → e = .returned (.tuple #[.pointer none, .int .i64 1])) ∧ (nk = true → ∃ g p, e = .returned (.tuple #[.pointer (some ⟨g, 0, none⟩), .int .i64 0]) ∧ SiteW w' g (st0 l m) p ∧ ∀ b, some b ∈ p.fp g → w.heap.size ≤ b) ∧ Below w.heap.size w w') := Lib.hid (by
    have := HN.out
    unfold NewPost at this
    rw [hnk] at this
    exact this)
  obtain ⟨LL, hLL⟩ : ∃ LL, decL b = LL := ⟨_, rfl⟩
  rw [hLL] at HD hEd hSd hnm hdl
  obtain ⟨S0, hS0⟩ : ∃ S0, st0 l m = S0 := ⟨_, rfl⟩
  rw [hS0] at HN2 hEd hSd hok0
  rw [hnk] at hok0 hEd
  unfold RepPost
  obtain ⟨RE, hRE⟩ : ∃ RE, repE l m b = RE := ⟨_, rfl⟩
  obtain ⟨RS, hRS⟩ : ∃ RS, repS l m b = RS := ⟨_, rfl⟩
  rw [hRE, hRS]
  rw [hRE] at hEd
  rw [hRS] at hSd
  clear HN hs hl hc hN1 ha hv he hb0 hE hnk hLL hS0 hRE hRS
  go_enter Tryz.func7, Tryz.ntmps7
  go_wp2_with fail
  refine HN2.out.mono ?_
  rintro e w1 ⟨hbad, hgood, HB⟩
  clear HN2
  rcases nk with _ | _
  · obtain rfl := hbad rfl
    have h1 : Hid (RE = 1) := Lib.hid (hEd.out.1 (by first | rfl | trivial))
    clear hgood hbad hEd
    go_wp2_with fail
    exact bodyPost_ret (v := .tuple #[.pointer none, .int .i64 1]) (by simp [results, Tryz.results7, go_sem]) rfl ⟨fun _ => by rw [h1.out], (fun h => by rw [h1.out] at h; cases h), HB⟩
  obtain ⟨g, p, rfl, hs1, hfp⟩ := hgood rfl
  clear hgood hbad
  replace hs1 := Lib.hid hs1
  replace hfp := Lib.hid hfp
  replace hok0 := Lib.hid (hok0.out (by first | rfl | trivial))
  have HD1 := Lib.hid (HD.out w1 HB)
  clear HD
  go_wp2_with fail
  refine HD1.out.mono ?_
  rintro e w2 ⟨⟨y, rfl, ho⟩, hb2⟩
  clear HD1
  by_cases hE : E = 0
  rotate_left
  · have h1 : Hid (RE = E) := Lib.hid (hEd.out.2.1 (by first | rfl | trivial) hE)
    have hc : (E != 0) = true := by simpa using hE
    have hE2 := Lib.hid hE
    have HB2 := below_then HB hb2
    clear hEd hE
    go_wp2_with fail
    exact bodyPost_ret (v := .tuple #[.pointer none, .int .i64 E]) (by simp [results, Tryz.results7, go_sem]) rfl ⟨fun _ => by rw [h1.out], (fun h => by rw [h1.out] at h; exact absurd h hE2.out), HB2⟩
  subst hE
  have hpl : Hid (RE = (playF LL S0).1) := Lib.hid (hEd.out.2.2 (by first | rfl | trivial) (by first | rfl | trivial))
  have HB2 := below_then HB hb2
  obtain ⟨Av, hAv⟩ : ∃ Av : Nat → Prop, Av = (fun x => x < w.heap.size ∨ y.ownBlock = some x) := ⟨_, rfl⟩
  have hav : Hid (∀ x, Av x → x < w2.heap.size) := Lib.hid (by
    rw [hAv]
    rintro x (h | h)
    · exact Nat.lt_of_lt_of_le h HB2.size
    · exact (own_lt ho.out h).1)
  have havw : Hid (∀ x, x < w.heap.size → Av x) := Lib.hid (by rw [hAv]; exact fun x h => .inl h)
  have havy : Hid (∀ x, y.ownBlock = some x → Av x) := Lib.hid (by rw [hAv]; exact fun x h => .inr h)
  have hL0 : Hid (Lone Av w2 g S0) := Lib.hid ⟨p, hs1.out.bel hb2, fun x hx hA => by
    rw [hAv] at hA
    rcases hA with h | h
    · have := hfp.out x hx
      omega
    · have h1 := hs1.out.lt hx
      have h2 := (own_lt ho.out h).2
      omega⟩
  have hrow : Hid (Row w2 39 3 encE y LL) := Lib.hid (own_weak ho.out (Nat.zero_le _))
  obtain ⟨ya, yc, rfl⟩ := own_slice ho.out
  obtain ⟨N, hN⟩ : ∃ N, LL.length = N := ⟨_, rfl⟩
  rw [hN] at hrow havy ⊢
  have hN9 : N ≤ 1000 := by rw [← hN]; exact hdl.out
  replace hN := Lib.hid hN
  have HBH := Lib.hid HB2
  clear hEd hAv ho hs1 hfp hb2 HB HB2
  go_wp2_with fail
  go_loopg [33] N (fun g1 i wr => ∃ (k : Nat) (s : St), k ≤ N ∧ i = .int .i64 (k : Int) ∧ Hid (g1 = N - k) ∧ Hid s.ok ∧ Hid (Lone Av wr g s) ∧ Hid (playF (LL.drop k) s = playF LL S0) ∧ Hid (Kp Av w2 wr))
  case atStart => exact ⟨0, S0, Nat.zero_le _, rfl, Lib.hid rfl, hok0, hL0, Lib.hid rfl, Lib.hid (Kp.refl _)⟩
  case round =>
    clear hL0 hok0
    obtain ⟨k, s, hk, rfl, hr, hok, hL, hP, hK⟩ := hrel
    by_cases hlt : k < N
    · have hkl : Hid (k < LL.length) := Lib.hid (by rw [hN.out]; exact hlt)
      have hrw : Row wr 39 3 encE (.slice ya N yc) LL := hrow.out.keep (fun x hx => hK.out.block x (havy.out x hx))
      obtain ⟨bk, off, rfl, e0, e1, e2, hb⟩ := (hrw.at encE_len).ent k hkl.out
      have hxz := Lib.hid (hnm.out _ (List.getElem_mem hkl.out))
      have hP2 := Lib.hid (show LL.drop k = LL[k]'hkl.out :: LL.drop (k + 1) from List.drop_eq_getElem_cons hkl.out)
      obtain ⟨x, hx⟩ : ∃ x, LL[k]'hkl.out = x := ⟨_, rfl⟩
      rw [hx] at e0 e1 e2 hxz hP2
      clear hx hb hrw
      obtain ⟨xd, xk, xn⟩ := x
      dsimp only at e0 e1 e2 hxz
      have hok2 := Lib.hid (doS_ok s hok.out ⟨xd, xk, xn⟩ hxz.out)
      have hsz := Lib.hid hK.out.size
      obtain ⟨D, hD⟩ : ∃ D, doS s ⟨xd, xk, xn⟩ = D := ⟨_, rfl⟩
      go_upto_region 10 with fail
      generalize hWW : World.alloc _ _ = W4
      have ky : At W4 wr.heap.size 39 #[.int .i64 xd, .int .i64 xk, .string xn] := by rw [← hWW]; exact At.new' rfl
      have hbW : Below wr.heap.size wr W4 := by rw [← hWW]; exact below_al (Below.refl _ _) _
      replace hL := Lib.hid (hL.out.up hbW)
      replace hK := Lib.hid (hK.out.then hav.out hbW)
      have hsz2 := Lib.hid hK.out.size
      obtain ⟨y0, y1, y2⟩ := ky.three
      clear hWW hbW e0 e1 e2
      have HO := Lib.hid (lone_do hL.out (fun x hx => Nat.lt_of_lt_of_le (hav.out x hx) hK.out.size) hok.out xd xk xn hxz.out)
      rw [hD] at HO hok2
      go_wp2_with fail
      refine HO.out.mono ?_
      rintro e w5 ⟨rfl, hL5, hK5⟩
      replace hL5 := Lib.hid hL5
      replace hK5 := Lib.hid (hK.out.trans hK5)
      by_cases hz : D.1 = 0
      · have hgo : Hid (playF (LL.drop (k + 1)) D.2 = playF LL S0) := Lib.hid (by
          rw [← hP.out, hP2.out, playF_go (by rw [hD]; exact hz), hD])
        rw [hz]
        clear hL hK HO hP
        go_wp2_with fail
        go_roundg (N - (k + 1))
        case measure => have := hr.out; omega
        case rel => exact ⟨k + 1, D.2, by omega, by go_num, Lib.hid rfl, hok2, hL5, hgo, hK5⟩
      · have hst : Hid (playF LL S0 = (D.1, s)) := Lib.hid (by
          rw [← hP.out, hP2.out, playF_stop (by rw [hD]; exact hz), hD])
        obtain ⟨d1, hd1⟩ : ∃ d1, D.1 = d1 := ⟨_, rfl⟩
        rw [hd1] at hst hz ⊢
        have hc : (d1 != 0) = true := by simpa using hz
        have h1 : Hid (RE = d1) := Lib.hid (by rw [hpl.out, hst.out])
        replace hz := Lib.hid hz
        have HB5 := below_le HBH.out (hK5.out.below havw.out)
        clear hL hK HO hP
        go_wp2_with fail
        exact bodyPost_ret (v := .tuple #[.pointer none, .int .i64 d1]) (by simp [results, Tryz.results7, go_sem]) rfl ⟨fun _ => by rw [h1.out], (fun h => by rw [h1.out] at h; exact absurd h hz.out), HB5⟩
    · have hE : Hid (LL.drop k = []) := Lib.hid (List.drop_eq_nil_of_le (by have := hN.out; omega))
      have hst : Hid (playF LL S0 = (0, s)) := Lib.hid (by rw [← hP.out, hE.out]; rfl)
      have h1 : Hid (RE = 0) := Lib.hid (by rw [hpl.out, hst.out])
      have h2 : Hid (RS = s) := Lib.hid (by rw [hSd.out, hst.out])
      have HB5 := below_le HBH.out (hK.out.below havw.out)
      go_wp2_with fail
      exact bodyPost_ret (v := .tuple #[.pointer (some ⟨g, 0, none⟩), .int .i64 0]) (by simp [results, Tryz.results7, go_sem]) rfl ⟨fun h => absurd h1.out h, fun _ => by obtain ⟨p, q1, q2⟩ := hL.out; rw [h2.out]; exact ⟨g, p, rfl, q1, fun x hx => Nat.le_of_not_lt fun h => q2 x hx (havw.out x h)⟩, HB5⟩

set_option maxRecDepth 100000 in
set_option maxHeartbeats 2000000 in
theorem refreplay_any (l : List Bun) (m : ByteArray) (hm : m.size ≤ 60) (ao : Option Addr) (cap : Nat) (hl : l.length ≤ cap) (hc : cap ≤ 9223372036854775807) (hs : Hid (∀ x ∈ l, x.tag.size ≤ 60 ∧ x.mark.size ≤ 60)) (hf : (ao = none ∧ l.length = 0 ∧ cap = 0) ∨ ∃ b off, ao = some ⟨b, off, none⟩) (b : List UInt8) (v : Value) (hb0 : b.length ≤ 1000000) (w : World) (he : Env w) (ha : Hid (RowAt encB 4 w.heap.size w ao l)) (hv : IsB b v w) :
    Calls Tryz.prog 8 #[.slice ao l.length cap, .string m, v] w fun e w' => RRepPost l m b w e w' := by
  obtain ⟨a, n, c, rfl, -, -⟩ := hv.shape
  have he0 := Lib.hid he
  have hv0 := Lib.hid hv
  have hbl := Lib.hid hb0
  have HN := Lib.hid (rnew_any l m hm ao cap hl hc hs hf w ha)
  have hok0 : Hid (newOk l m = true → (st0 l m).ok) := Lib.hid fun h => st0_ok l m h hs.out
  have hnm := Lib.hid (decL_names b)
  have hdl := Lib.hid (decL_few b)
  have hEd := Lib.hid (And.intro (@repE_new l m b) (And.intro (@repE_dec l m b) (@repE_play l m b)))
  have hSd : Hid (repS l m b = (playF (decL b) (st0 l m)).2) := Lib.hid rfl
  obtain ⟨N1, hN1⟩ : ∃ N1, l.length = N1 := ⟨_, rfl⟩
  rw [hN1] at HN hl ⊢
  obtain ⟨E, hE⟩ : ∃ E, decE b = E := ⟨_, rfl⟩
  have HD := Lib.hid (fun (w1 : World) (HB : Below w.heap.size w w1) => refdecode_v b _ (.inl hbl.out) w1 (hv0.out.up HB))
  rw [hE] at HD hEd
  obtain ⟨nk, hnk⟩ : ∃ nk, newOk l m = nk := ⟨_, rfl⟩
  have HN2 : Hid (Calls Tryz.prog 26 #[.slice ao N1 cap, .string m] w fun e w' => (nk = false → e = .returned (.tuple #[.pointer none, .int .i64 1])) ∧ (nk = true → ∃ g p, e = .returned (.tuple #[.pointer (some ⟨g, 0, none⟩), .int .i64 0]) ∧ RefW w' g (st0 l m) p ∧ ∀ b, some b ∈ p.fp g → w.heap.size ≤ b) ∧ Below w.heap.size w w') := Lib.hid (by
    have := HN.out
    unfold RNewPost at this
    rw [hnk] at this
    exact this)
  obtain ⟨LL, hLL⟩ : ∃ LL, decL b = LL := ⟨_, rfl⟩
  rw [hLL] at HD hEd hSd hnm hdl
  obtain ⟨S0, hS0⟩ : ∃ S0, st0 l m = S0 := ⟨_, rfl⟩
  rw [hS0] at HN2 hEd hSd hok0
  rw [hnk] at hok0 hEd
  unfold RRepPost
  obtain ⟨RE, hRE⟩ : ∃ RE, repE l m b = RE := ⟨_, rfl⟩
  obtain ⟨RS, hRS⟩ : ∃ RS, repS l m b = RS := ⟨_, rfl⟩
  rw [hRE, hRS]
  rw [hRE] at hEd
  rw [hRS] at hSd
  clear HN hs hl hc hN1 ha hv he hb0 hE hnk hLL hS0 hRE hRS hf
  go_enter Tryz.func8, Tryz.ntmps8
  go_wp2_with fail
  refine HN2.out.mono ?_
  rintro e w1 ⟨hbad, hgood, HB⟩
  clear HN2
  rcases nk with _ | _
  · obtain rfl := hbad rfl
    have h1 : Hid (RE = 1) := Lib.hid (hEd.out.1 (by first | rfl | trivial))
    clear hgood hbad hEd
    go_wp2_with fail
    exact bodyPost_ret (v := .tuple #[.pointer none, .int .i64 1]) (by simp [results, Tryz.results8, go_sem]) rfl ⟨fun _ => by rw [h1.out], (fun h => by rw [h1.out] at h; cases h), HB⟩
  obtain ⟨g, p, rfl, hs1, hfp⟩ := hgood rfl
  clear hgood hbad
  replace hs1 := Lib.hid hs1
  replace hfp := Lib.hid hfp
  replace hok0 := Lib.hid (hok0.out (by first | rfl | trivial))
  have HD1 := Lib.hid (HD.out w1 HB)
  clear HD
  go_wp2_with fail
  refine HD1.out.mono ?_
  rintro e w2 ⟨⟨y, rfl, ho⟩, hb2⟩
  clear HD1
  by_cases hE : E = 0
  rotate_left
  · have h1 : Hid (RE = E) := Lib.hid (hEd.out.2.1 (by first | rfl | trivial) hE)
    have hc : (E != 0) = true := by simpa using hE
    have hE2 := Lib.hid hE
    have HB2 := below_then HB hb2
    clear hEd hE
    go_wp2_with fail
    exact bodyPost_ret (v := .tuple #[.pointer none, .int .i64 E]) (by simp [results, Tryz.results8, go_sem]) rfl ⟨fun _ => by rw [h1.out], (fun h => by rw [h1.out] at h; exact absurd h hE2.out), HB2⟩
  subst hE
  have hpl : Hid (RE = (playF LL S0).1) := Lib.hid (hEd.out.2.2 (by first | rfl | trivial) (by first | rfl | trivial))
  have HB2 := below_then HB hb2
  obtain ⟨Av, hAv⟩ : ∃ Av : Nat → Prop, Av = (fun x => x < w.heap.size ∨ y.ownBlock = some x) := ⟨_, rfl⟩
  have hav : Hid (∀ x, Av x → x < w2.heap.size) := Lib.hid (by
    rw [hAv]
    rintro x (h | h)
    · exact Nat.lt_of_lt_of_le h HB2.size
    · exact (own_lt ho.out h).1)
  have havw : Hid (∀ x, x < w.heap.size → Av x) := Lib.hid (by rw [hAv]; exact fun x h => .inl h)
  have havy : Hid (∀ x, y.ownBlock = some x → Av x) := Lib.hid (by rw [hAv]; exact fun x h => .inr h)
  have hL0 : Hid (RLone Av w2 g S0) := Lib.hid ⟨p, hs1.out.bel hb2, fun x hx hA => by
    rw [hAv] at hA
    rcases hA with h | h
    · have := hfp.out x hx
      omega
    · have h1 := hs1.out.lt hx
      have h2 := (own_lt ho.out h).2
      omega⟩
  have hrow : Hid (Row w2 39 3 encE y LL) := Lib.hid (own_weak ho.out (Nat.zero_le _))
  obtain ⟨ya, yc, rfl⟩ := own_slice ho.out
  obtain ⟨N, hN⟩ : ∃ N, LL.length = N := ⟨_, rfl⟩
  rw [hN] at hrow havy ⊢
  have hN9 : N ≤ 1000 := by rw [← hN]; exact hdl.out
  replace hN := Lib.hid hN
  have HBH := Lib.hid HB2
  clear hEd hAv ho hs1 hfp hb2 HB HB2
  go_wp2_with fail
  go_loopg [11] N (fun g1 i wr => ∃ (k : Nat) (s : St), k ≤ N ∧ i = .int .i64 (k : Int) ∧ Hid (g1 = N - k) ∧ Hid s.ok ∧ Hid (RLone Av wr g s) ∧ Hid (playF (LL.drop k) s = playF LL S0) ∧ Hid (Kp Av w2 wr))
  case atStart => exact ⟨0, S0, Nat.zero_le _, rfl, Lib.hid rfl, hok0, hL0, Lib.hid rfl, Lib.hid (Kp.refl _)⟩
  case round =>
    clear hL0 hok0
    obtain ⟨k, s, hk, rfl, hr, hok, hL, hP, hK⟩ := hrel
    by_cases hlt : k < N
    · have hkl : Hid (k < LL.length) := Lib.hid (by rw [hN.out]; exact hlt)
      have hrw : Row wr 39 3 encE (.slice ya N yc) LL := hrow.out.keep (fun x hx => hK.out.block x (havy.out x hx))
      obtain ⟨bk, off, rfl, e0, e1, e2, hb⟩ := (hrw.at encE_len).ent k hkl.out
      have hxz := Lib.hid (hnm.out _ (List.getElem_mem hkl.out))
      have hP2 := Lib.hid (show LL.drop k = LL[k]'hkl.out :: LL.drop (k + 1) from List.drop_eq_getElem_cons hkl.out)
      obtain ⟨x, hx⟩ : ∃ x, LL[k]'hkl.out = x := ⟨_, rfl⟩
      rw [hx] at e0 e1 e2 hxz hP2
      clear hx hb hrw
      obtain ⟨xd, xk, xn⟩ := x
      dsimp only at e0 e1 e2 hxz
      have hok2 := Lib.hid (doS_ok s hok.out ⟨xd, xk, xn⟩ hxz.out)
      have hsz := Lib.hid hK.out.size
      obtain ⟨D, hD⟩ : ∃ D, doS s ⟨xd, xk, xn⟩ = D := ⟨_, rfl⟩
      go_upto_region 10 with fail
      have HO := Lib.hid (rlone_do hL.out (fun x hx => Nat.lt_of_lt_of_le (hav.out x hx) hK.out.size) hok.out xd xk xn hxz.out)
      rw [hD] at HO hok2
      go_wp2_with fail
      refine HO.out.mono ?_
      rintro e w5 ⟨rfl, hL5, hK5⟩
      replace hL5 := Lib.hid hL5
      replace hK5 := Lib.hid (hK.out.trans hK5)
      by_cases hz : D.1 = 0
      · have hgo : Hid (playF (LL.drop (k + 1)) D.2 = playF LL S0) := Lib.hid (by
          rw [← hP.out, hP2.out, playF_go (by rw [hD]; exact hz), hD])
        rw [hz]
        clear hL hK HO hP
        go_wp2_with fail
        go_roundg (N - (k + 1))
        case measure => have := hr.out; omega
        case rel => exact ⟨k + 1, D.2, by omega, by go_num, Lib.hid rfl, hok2, hL5, hgo, hK5⟩
      · have hst : Hid (playF LL S0 = (D.1, s)) := Lib.hid (by
          rw [← hP.out, hP2.out, playF_stop (by rw [hD]; exact hz), hD])
        obtain ⟨d1, hd1⟩ : ∃ d1, D.1 = d1 := ⟨_, rfl⟩
        rw [hd1] at hst hz ⊢
        have hc : (d1 != 0) = true := by simpa using hz
        have h1 : Hid (RE = d1) := Lib.hid (by rw [hpl.out, hst.out])
        replace hz := Lib.hid hz
        have HB5 := below_le HBH.out (hK5.out.below havw.out)
        clear hL hK HO hP
        go_wp2_with fail
        exact bodyPost_ret (v := .tuple #[.pointer none, .int .i64 d1]) (by simp [results, Tryz.results8, go_sem]) rfl ⟨fun _ => by rw [h1.out], (fun h => by rw [h1.out] at h; exact absurd h hz.out), HB5⟩
    · have hE : Hid (LL.drop k = []) := Lib.hid (List.drop_eq_nil_of_le (by have := hN.out; omega))
      have hst : Hid (playF LL S0 = (0, s)) := Lib.hid (by rw [← hP.out, hE.out]; rfl)
      have h1 : Hid (RE = 0) := Lib.hid (by rw [hpl.out, hst.out])
      have h2 : Hid (RS = s) := Lib.hid (by rw [hSd.out, hst.out])
      have HB5 := below_le HBH.out (hK.out.below havw.out)
      go_wp2_with fail
      exact bodyPost_ret (v := .tuple #[.pointer (some ⟨g, 0, none⟩), .int .i64 0]) (by simp [results, Tryz.results8, go_sem]) rfl ⟨fun h => absurd h1.out h, fun _ => by obtain ⟨p, q1, q2⟩ := hL.out; rw [h2.out]; exact ⟨g, p, rfl, q1, fun x hx => Nat.le_of_not_lt fun h => q2 x hx (havw.out x h)⟩, HB5⟩

end Go.Proofs.YtpocmijfkjjboaaGreatDoor

/- site: the walk of SiteReplays. -/
set_option linter.unusedVariables false
namespace Go.Proofs.YtpocmijfkjjboaaGreatDoor
open Go.ChangeShapes Go.WideShapes Go.ChangeAt Go.RowKit

theorem repS_ok {l : List Bun} {m : ByteArray} {b : List UInt8} (h : repE l m b = 0) (hs : ∀ x ∈ l, x.tag.size ≤ 60 ∧ x.mark.size ≤ 60) : (repS l m b).ok := by
  have hn : newOk l m = true := by
    cases q : newOk l m
    · rw [repE_new b q] at h
      cases h
    · rfl
  exact playF_ok _ _ (st0_ok l m hn hs) (decL_names b)
set_option maxRecDepth 100000 in
set_option maxHeartbeats 4000000 in
theorem siteReplays_walk (l : List Bun) (a1 : Option Addr) (c1 : Nat) (h1 : l.length ≤ c1) (hc1 : c1 ≤ 9223372036854775807) (m : ByteArray) (b : List UInt8) (v : Value) (w : World) (r1 : RowAt encB 4 w.heap.size w a1 l) (hf1 : (a1 = none ∧ l.length = 0 ∧ c1 = 0) ∨ ∃ b off, a1 = some ⟨b, off, none⟩) (hv : IsB b v w) (he : Env w) :
    Calls Tryz.prog 3 #[.slice a1 l.length c1, .string m, v] w fun e w' => e = .returned (.bool true) ∧ Below w.heap.size w w' := by
  obtain ⟨a, n, c, rfl, hn0, -, -⟩ := hv.shape
  have he0 := Lib.hid he
  have hv0 := Lib.hid hv
  have up1 : Hid (∀ u, Below w.heap.size w u → RowAt encB 4 u.heap.size u a1 l) := Lib.hid fun u hb => (r1.bel (Nat.le_refl _) hb).mono hb.size
  have HL := Lib.hid fun u (hb : Below w.heap.size w u) => large_any l m [] a1 none c1 0 h1 (Nat.le_refl _) hc1 (by omega) u (up1.out u hb) (RowAt.nil _ _)
  obtain ⟨lg, hlg⟩ : ∃ lg, largeB l m [] = lg := ⟨_, rfl⟩
  rw [hlg] at HL
  obtain ⟨q, hq⟩ : ∃ q, decide ((600 : Int) < (n : Int)) = q := ⟨_, rfl⟩
  have hbl : Hid (q = false → b.length ≤ 600) := Lib.hid (fun h => by rw [h] at hq; have := of_decide_eq_false hq; omega)
  have hsm : Hid (lg = false → (∀ x ∈ l, x.tag.size ≤ 60 ∧ x.mark.size ≤ 60) ∧ m.size ≤ 60) := Lib.hid fun hl => ⟨(large_no (hlg.trans hl)).1, (large_no (hlg.trans hl)).2.1⟩
  have HR : Hid (lg = false → q = false → ∀ u, Below w.heap.size w u → Calls Tryz.prog 7 #[.slice a1 l.length c1, .string m, .slice a n c] u fun e w' => RepPost l m b u e w') := Lib.hid fun hl hq u hb => replay_any l m (hsm.out hl).2 a1 c1 h1 hc1 (Lib.hid (hsm.out hl).1) b _ (by have := hbl.out hq; omega) u (he.bel hb) (Lib.hid (up1.out u hb)) (hv.up hb)
  have HT : Hid (lg = false → q = false → ∀ u, Below w.heap.size w u → Calls Tryz.prog 8 #[.slice a1 l.length c1, .string m, .slice a n c] u fun e w' => RRepPost l m b u e w') := Lib.hid fun hl hq u hb => refreplay_any l m (hsm.out hl).2 a1 c1 h1 hc1 (Lib.hid (hsm.out hl).1) hf1 b _ (by have := hbl.out hq; omega) u (he.bel hb) (Lib.hid (up1.out u hb)) (hv.up hb)
  have hok : Hid (lg = false → repE l m b = 0 → (repS l m b).ok) := Lib.hid fun hl h => repS_ok h (hsm.out hl).1
  obtain ⟨N1, hN1⟩ : ∃ N1, l.length = N1 := ⟨_, rfl⟩
  rw [hN1] at HL HR HT ⊢
  unfold RepPost at HR
  unfold RRepPost at HT
  obtain ⟨E, hE⟩ : ∃ E, repE l m b = E := ⟨_, rfl⟩
  rw [hE] at HR HT hok
  clear hn0 hlg r1 hf1 he hv hN1 h1 hc1 hE hsm
  go_enter Tryz.func3, Tryz.ntmps3
  go_wp2_with fail
  refine (awake_any w).mono ?_
  rintro e w1 ⟨rfl, HB⟩
  go_wp2_with fail
  refine (HL.out _ HB).mono ?_
  rintro e w2 ⟨rfl, hb2⟩
  replace HB := below_then HB hb2
  clear hb2 HL
  rcases lg with _ | _
  rotate_left
  · go_wp2_with fail
    go_ret
    exact ⟨rfl, HB⟩
  rcases q with _ | _
  rotate_left
  · go_wp2_with fail
    go_ret
    exact ⟨rfl, HB⟩
  replace HR := Lib.hid (HR.out (by first | rfl | trivial) (by first | rfl | trivial) _ HB)
  replace hok := Lib.hid (hok.out (by first | rfl | trivial))
  go_wp2_with fail
  refine HR.out.mono ?_
  rintro e w3 ⟨hbad, hgood, hb3⟩
  have HB3 := below_then HB hb3
  have HT3 := Lib.hid (HT.out (by first | rfl | trivial) (by first | rfl | trivial) _ HB3)
  clear HR HT hb3 HB
  by_cases hz : E = 0
  rotate_left
  · obtain rfl := hbad hz
    clear hbad hgood
    go_wp2_with fail
    refine HT3.out.mono ?_
    rintro e w4 ⟨hbad, -, hb4⟩
    obtain rfl := hbad hz
    have HB4 := below_then HB3 hb4
    have e1 : (E == E) = true := by simp
    have e3 : (E != 0) = true := by simpa using hz
    clear hbad hb4 HT3 hz
    go_wp2_with fail
    go_ret
    exact ⟨rfl, HB4⟩
  · subst hz
    obtain ⟨g, p, rfl, hs1, hfp⟩ := hgood (by first | rfl | trivial)
    replace hs1 := Lib.hid hs1
    clear hbad hgood hfp
    go_wp2_with fail
    refine HT3.out.mono ?_
    rintro e w4 ⟨-, hgood, hb4⟩
    obtain ⟨h, q, rfl, ht1, hfq⟩ := hgood (by first | rfl | trivial)
    have HB4 := below_then HB3 hb4
    have HS := Lib.hid (same_any _ (hok.out (by first | rfl | trivial)) g h p q w4 (hs1.out.bel hb4) ht1)
    clear hgood hb4 HT3 hfq ht1 hs1
    go_wp2_with fail
    refine HS.out.mono ?_
    rintro e w5 ⟨rfl, hb5⟩
    go_wp2_with fail
    go_ret
    exact ⟨rfl, below_then HB4 hb5⟩

end Go.Proofs.YtpocmijfkjjboaaGreatDoor

/- site: the law's closure: a site is as one to which the kept entries are done. -/
set_option linter.unusedVariables false
namespace Go.Proofs.YtpocmijfkjjboaaGreatDoor
open Go.ChangeShapes Go.WideShapes Go.ChangeAt Go.RowKit

set_option maxRecDepth 100000 in
set_option maxHeartbeats 4000000 in
theorem alike_core (m : ByteArray) (a1 : Option Addr) (N1 c1 : Nat) (X Y g : Nat) (p : SV) (S0 T : St) (c0 d0 e0 : Int) (ms os : List ByteArray) (L : List Ent) (vk : Value) (w : World)
    (hX : w.cell? ⟨X, 0, none⟩ = some (.slice a1 N1 c1)) (hY : w.cell? ⟨Y, 0, none⟩ = some (.string m)) (hs : SiteW w g T p) (hk : IsE L vk w) (hz : ∀ x ∈ L, x.name.size ≤ 60) (hok0 : S0.ok) (hpl : playF L S0 = (0, T)) (hLn : L.length ≤ 1000000) (hmn : ms.length ≤ 1000000) (hon : os.length ≤ 1000000)
    (HN : Hid (∀ u, Below w.heap.size w u → Calls Tryz.prog 10 #[.slice a1 N1 c1, .string m] u fun e w' => ∃ g p, e = .returned (.tuple #[.pointer (some ⟨g, 0, none⟩), .int .i64 0]) ∧ SiteW w' g S0 p ∧ (∀ b, some b ∈ p.fp g → u.heap.size ≤ b) ∧ Below u.heap.size u w'))
    (HA : Hid (∀ u g p, SiteW u g T p → Calls Tryz.prog 15 #[.pointer (some ⟨g, 0, none⟩)] u fun e w' => e = .returned (.tuple #[.int .i64 c0, .int .i64 d0, .int .i64 e0]) ∧ Below u.heap.size u w'))
    (HM : Hid (∀ u g p, SiteW u g T p → Calls Tryz.prog 18 #[.pointer (some ⟨g, 0, none⟩)] u fun e w' => (∃ v, e = .returned v ∧ IsS ms v w') ∧ Below u.heap.size u w'))
    (HO : Hid (∀ u g p, SiteW u g T p → Calls Tryz.prog 19 #[.pointer (some ⟨g, 0, none⟩)] u fun e w' => (∃ v, e = .returned v ∧ IsS os v w') ∧ Below u.heap.size u w'))
    (HE : Hid (∀ u g p, SiteW u g T p → Calls Tryz.prog 12 #[.pointer (some ⟨g, 0, none⟩)] u fun e w' => (∃ v, e = .returned v ∧ IsE L v w') ∧ Below u.heap.size u w')) :
    Calls Tryz.prog 14 #[.pointer (some ⟨g, 0, none⟩), vk, .pointer (some ⟨X, 0, none⟩), .pointer (some ⟨Y, 0, none⟩)] w fun e w' => e = .returned (.bool true) ∧ Below w.heap.size w w' := by
  obtain ⟨ka, kc, rfl, hk1, hk2, hk3⟩ := hk
  have hs0 := Lib.hid hs
  have hz0 := Lib.hid hz
  have hpl0 := Lib.hid hpl
  have hok1 := Lib.hid hok0
  have hr0 := Lib.hid hk3
  have hln := Lib.hid (And.intro hLn (And.intro hmn hon))
  have hke := Lib.hid (And.intro hk1 hk2)
  obtain ⟨N, hN⟩ : ∃ N, L.length = N := ⟨_, rfl⟩
  rw [hN] at hk1 ⊢
  replace hN := Lib.hid hN
  clear hs hz hpl hok0 hk3 hLn hmn hon
  go_enter Tryz.func14, Tryz.ntmps14
  go_wp2_with fail
  refine (HN.out _ (Below.refl _ _)).mono ?_
  rintro e w1 ⟨g2, p2, rfl, hs2, hfp, HB⟩
  have hL1 : Hid (Lone (fun x => x < w.heap.size) w1 g2 S0) := Lib.hid ⟨p2, hs2, fun x hx h => by have := hfp x hx; omega⟩
  clear hs2 hfp HN hX hY
  go_wp2_with fail
  go_loopg [35] N (fun g1 i wr => ∃ (k : Nat) (s : St), k ≤ N ∧ i = .int .i64 (k : Int) ∧ Hid (g1 = N - k) ∧ Hid s.ok ∧ Hid (Lone (fun x => x < w.heap.size) wr g2 s) ∧ Hid (playF (L.drop k) s = (0, T)) ∧ Below w.heap.size w wr)
  case atStart => exact ⟨0, S0, Nat.zero_le _, rfl, Lib.hid rfl, hok1, hL1, hpl0, HB⟩
  case round =>
    clear hL1 hok1 HB
    obtain ⟨k, s, hk, rfl, hr, hok, hL, hP, HB⟩ := hrel
    by_cases hlt : k < N
    · have hkl : Hid (k < L.length) := Lib.hid (by rw [hN.out]; exact hlt)
      obtain ⟨bk, off, rfl, e0, e1, e2, hb⟩ := (show RowAt encE 3 w.heap.size wr ka L from hr0.out.bel (Nat.le_refl _) HB).ent k hkl.out
      have hxz := Lib.hid (hz0.out _ (List.getElem_mem hkl.out))
      have hP2 := Lib.hid (show L.drop k = L[k]'hkl.out :: L.drop (k + 1) from List.drop_eq_getElem_cons hkl.out)
      obtain ⟨x, hx⟩ : ∃ x, L[k]'hkl.out = x := ⟨_, rfl⟩
      rw [hx] at e0 e1 e2 hxz hP2
      clear hx hb
      obtain ⟨xd, xk, xn⟩ := x
      dsimp only at e0 e1 e2 hxz
      have hok2 := Lib.hid (doS_ok s hok.out ⟨xd, xk, xn⟩ hxz.out)
      obtain ⟨D, hD⟩ : ∃ D, doS s ⟨xd, xk, xn⟩ = D := ⟨_, rfl⟩
      have hz1 : D.1 = 0 := by
        have h := hP.out
        rw [hP2.out] at h
        by_cases q : (doS s ⟨xd, xk, xn⟩).1 = 0
        · rw [← hD]; exact q
        · rw [playF_stop q] at h
          exact absurd (congrArg Prod.fst h) q
      have hgo : Hid (playF (L.drop (k + 1)) D.2 = (0, T)) := Lib.hid (by
        have h := hP.out
        rw [hP2.out, playF_go (by rw [hD]; exact hz1), hD] at h
        exact h)
      go_upto_region 7 with fail
      generalize hWW : World.alloc _ _ = W4
      have ky : At W4 wr.heap.size 39 #[.int .i64 xd, .int .i64 xk, .string xn] := by rw [← hWW]; exact At.new' rfl
      have hbW : Below wr.heap.size wr W4 := by rw [← hWW]; exact below_al (Below.refl _ _) _
      replace hL := Lib.hid (hL.out.up hbW)
      replace HB := below_then HB hbW
      obtain ⟨y0, y1, y2⟩ := ky.three
      clear hWW hbW e0 e1 e2
      have HD := Lib.hid (lone_do hL.out (fun x hx => Nat.lt_of_lt_of_le hx HB.size) hok.out xd xk xn hxz.out)
      rw [hD] at HD hok2
      go_wp2_with fail
      refine HD.out.mono ?_
      rintro e w5 ⟨rfl, hL5, hK5⟩
      replace hL5 := Lib.hid hL5
      replace HB := below_le HB (hK5.below (fun x hx => hx))
      rw [hz1]
      clear hL HD hP hK5 y0 y1 y2 ky
      go_wp2_with fail
      go_roundg (N - (k + 1))
      case measure => have := hr.out; omega
      case rel => exact ⟨k + 1, D.2, by omega, by go_num, Lib.hid rfl, hok2, hL5, hgo, HB⟩
    · have hE : Hid (L.drop k = []) := Lib.hid (List.drop_eq_nil_of_le (by have := hN.out; omega))
      have hsT : s = T := by
        have h := hP.out
        rw [hE.out] at h
        exact congrArg Prod.snd h
      subst hsT
      obtain ⟨q, hq1, -⟩ := hL.out
      replace hq1 := Lib.hid hq1
      have hst := Lib.hid (hs0.out.bel (w' := wr) (HB.mono (Nat.le_refl _)))
      have hkE : Hid (IsE L (.slice ka N kc) wr) := Lib.hid ⟨ka, kc, by rw [hN.out], hke.out.1, hke.out.2, (hr0.out.bel (Nat.le_refl _) HB).mono HB.size⟩
      have HA1 := Lib.hid (HA.out wr g p hst.out)
      clear hE hP hL
      go_wp2_with fail
      refine HA1.out.mono ?_
      rintro e v1 ⟨rfl, b1⟩
      replace HB := below_then HB b1
      replace hst := Lib.hid (hst.out.bel b1)
      replace hq1 := Lib.hid (hq1.out.bel b1)
      replace hkE := Lib.hid (hkE.out.up b1)
      have HA2 := Lib.hid (HA.out v1 g2 q hq1.out)
      clear HA1 b1
      go_wp2_with fail
      refine HA2.out.mono ?_
      rintro e v2 ⟨rfl, b2⟩
      replace HB := below_then HB b2
      replace hst := Lib.hid (hst.out.bel b2)
      replace hq1 := Lib.hid (hq1.out.bel b2)
      replace hkE := Lib.hid (hkE.out.up b2)
      have z1 : (c0 == c0) = true := by simp
      have z2 : (d0 == d0) = true := by simp
      have z3 : (e0 == e0) = true := by simp
      have HE1 := Lib.hid (HE.out v2 g p hst.out)
      clear HA2 b2
      go_wp2_with fail
      refine HE1.out.mono ?_
      rintro e v3 ⟨⟨ev, rfl, he⟩, b3⟩
      replace HB := below_then HB b3
      replace hst := Lib.hid (hst.out.bel b3)
      replace hq1 := Lib.hid (hq1.out.bel b3)
      have HQ1 := Lib.hid (eqvE_any L _ _ v3 hln.out.1 he (hkE.out.up b3))
      clear HE1 b3 he hkE
      go_wp2_with fail
      refine HQ1.out.mono ?_
      rintro e v4 ⟨rfl, b4⟩
      replace HB := below_then HB b4
      replace hst := Lib.hid (hst.out.bel b4)
      replace hq1 := Lib.hid (hq1.out.bel b4)
      have HM1 := Lib.hid (HM.out v4 g p hst.out)
      clear HQ1 b4
      go_wp2_with fail
      refine HM1.out.mono ?_
      rintro e v5 ⟨⟨mv, rfl, hm1⟩, b5⟩
      replace HB := below_then HB b5
      replace hst := Lib.hid (hst.out.bel b5)
      replace hq1 := Lib.hid (hq1.out.bel b5)
      replace hm1 := Lib.hid hm1
      have HM2 := Lib.hid (HM.out v5 g2 q hq1.out)
      clear HM1 b5
      go_wp2_with fail
      refine HM2.out.mono ?_
      rintro e v6 ⟨⟨mu, rfl, hm2⟩, b6⟩
      replace HB := below_then HB b6
      replace hst := Lib.hid (hst.out.bel b6)
      replace hq1 := Lib.hid (hq1.out.bel b6)
      have HQ2 := Lib.hid (eqvS_any ms _ _ v6 hln.out.2.1 (hm1.out.up b6) hm2)
      clear HM2 b6 hm1 hm2
      go_wp2_with fail
      refine HQ2.out.mono ?_
      rintro e v7 ⟨rfl, b7⟩
      replace HB := below_then HB b7
      replace hst := Lib.hid (hst.out.bel b7)
      replace hq1 := Lib.hid (hq1.out.bel b7)
      have HO1 := Lib.hid (HO.out v7 g p hst.out)
      clear HQ2 b7
      go_wp2_with fail
      refine HO1.out.mono ?_
      rintro e v8 ⟨⟨ov, rfl, ho1⟩, b8⟩
      replace HB := below_then HB b8
      replace hq1 := Lib.hid (hq1.out.bel b8)
      replace ho1 := Lib.hid ho1
      have HO2 := Lib.hid (HO.out v8 g2 q hq1.out)
      clear HO1 b8
      go_wp2_with fail
      refine HO2.out.mono ?_
      rintro e v9 ⟨⟨ou, rfl, ho2⟩, b9⟩
      replace HB := below_then HB b9
      have HQ3 := Lib.hid (eqvS_any os _ _ v9 hln.out.2.2 (ho1.out.up b9) ho2)
      clear HO2 b9 ho1 ho2
      go_wp2_with fail
      refine HQ3.out.mono ?_
      rintro e v10 ⟨rfl, b10⟩
      replace HB := below_then HB b10
      go_wp2_with fail
      go_ret
      exact ⟨rfl, HB⟩

end Go.Proofs.YtpocmijfkjjboaaGreatDoor

/- site: the walk of SiteRecovered. -/
set_option linter.unusedVariables false
namespace Go.Proofs.YtpocmijfkjjboaaGreatDoor
open Go.ChangeShapes Go.WideShapes Go.ChangeAt Go.RowKit

theorem limE_no {l : List Bun} {m : ByteArray} {es : List Ent} (h : largeB l m es = false) : (∀ x ∈ l, x.tag.size ≤ 60 ∧ x.mark.size ≤ 60) ∧ m.size ≤ 60 ∧ es.length ≤ 25 ∧ ∀ x ∈ es, x.name.size ≤ 60 := large_no h
/-- What is known of the state behind all entries. -/
theorem run_known {l : List Bun} {m : ByteArray} {es : List Ent} (hn : newOk l m = true) (hs : ∀ x ∈ l, x.tag.size ≤ 60 ∧ x.mark.size ≤ 60) (hz : ∀ x ∈ es, x.name.size ≤ 60) :
    Kept (st0 l m) (runF es (st0 l m)) es.length := by
  have h0 : Kept (st0 l m) (st0 l m) 0 := Kept.start rfl
  have := Kept.run es (st0 l m) 0 h0
  rwa [Nat.zero_add] at this
theorem rep_enc {l : List Bun} {m : ByteArray} {k : List Ent} {T : St} (hn : newOk l m = true) (hv : logV k = true) (hp : playF k (st0 l m) = (0, T)) : repE l m (encJ k) = 0 ∧ repS l m (encJ k) = T := by
  obtain ⟨d1, d2, _⟩ := dec_enc hv
  refine ⟨by rw [repE_play hn d1, d2, hp], by unfold repS; rw [d2, hp]⟩
/-- The closure at an object in state T and its entries. -/
def Alike (l : List Bun) (m : ByteArray) (a1 : Option Addr) (N1 c1 : Nat) (X Y : Nat) (T : St) (L : List Ent) (B : World) : Prop :=
  ∀ (w : World) (g : Nat) (p : SV) (vk : Value), Below B.heap.size B w → SiteW w g T p → IsE L vk w → Calls Tryz.prog 14 #[.pointer (some ⟨g, 0, none⟩), vk, .pointer (some ⟨X, 0, none⟩), .pointer (some ⟨Y, 0, none⟩)] w fun e w' => e = .returned (.bool true) ∧ Below w.heap.size w w'
theorem alike_any {l : List Bun} {m : ByteArray} {a1 : Option Addr} {N1 c1 X Y : Nat} {B : World} (hN1 : l.length = N1) (hm : m.size ≤ 60) (hl : N1 ≤ c1) (hc : c1 ≤ 9223372036854775807) (hs : ∀ x ∈ l, x.tag.size ≤ 60 ∧ x.mark.size ≤ 60) (ha : RowAt encB 4 B.heap.size B a1 l) (hX : B.cell? ⟨X, 0, none⟩ = some (.slice a1 N1 c1)) (hY : B.cell? ⟨Y, 0, none⟩ = some (.string m)) (hn : newOk l m = true)
    {T : St} {L : List Ent} (hv : logV L = true) (hp : playF L (st0 l m) = (0, T)) : Alike l m a1 N1 c1 X Y T L B := by
  subst hN1
  intro w g p vk hb hsw hk
  have hok0 := st0_ok l m hn hs
  have hz : ∀ x ∈ L, x.name.size ≤ 60 := fun x hx => by have := (WordsOk.of (logV_ent hv hx)).bd.2; omega
  have hokT : T.ok := by have := playF_ok L _ hok0 hz; rw [hp] at this; exact this
  have hkept : T.kept = L := by have := playF_kept L _ _ hp; rw [this]; rfl
  have hm2 := miss_len T.tags T.at_
  have h1 := hokT.tagsN
  have h2 := hokT.openN
  have h3 := hokT.keptN
  refine alike_core m a1 l.length c1 X Y g p (st0 l m) T _ _ _ (missS T.tags T.at_) T.open_ L vk w (cell_up hb hX) (cell_up hb hY) hsw hk hz hok0 hp (by rw [← hkept]; omega) (by omega) (by omega) (Lib.hid fun u hu => ?_) (Lib.hid fun u g p h => account_any T hokT g p u h)
    (Lib.hid fun u g p h => (missing_any T hokT g p u h).mono fun e w' ⟨⟨v, e1, e2⟩, e3⟩ => ⟨⟨v, e1, row_isS e2.out⟩, e3⟩)
    (Lib.hid fun u g p h => (open_any T hokT g p u h).mono fun e w' ⟨⟨v, e1, e2⟩, e3⟩ => ⟨⟨v, e1, row_isS e2.out⟩, e3⟩)
    (Lib.hid fun u g p h => (entries_any T hokT g p u h).mono fun e w' ⟨⟨v, e1, e2⟩, e3⟩ => ⟨⟨v, e1, by rw [← hkept]; exact row_isE e2.out⟩, e3⟩)
  have hbu := below_then hb hu
  refine (new_any l m hm a1 c1 hl hc (Lib.hid hs) u (Lib.hid ((ha.bel (Nat.le_refl _) hbu).mono hbu.size))).mono ?_
  rintro e w' ⟨-, hg, hb3⟩
  obtain ⟨g2, p2, q1, q2, q3⟩ := hg hn
  exact ⟨g2, p2, q1, q2, q3, hb3⟩

set_option maxRecDepth 100000 in
set_option maxHeartbeats 4000000 in
theorem siteRecovered_walk (l : List Bun) (a1 : Option Addr) (c1 : Nat) (h1 : l.length ≤ c1) (hc1 : c1 ≤ 9223372036854775807) (m : ByteArray) (es : List Ent) (a2 : Option Addr) (c2 : Nat) (h2 : es.length ≤ c2) (hc2 : c2 ≤ 9223372036854775807) (cut0 : Int) (hcut : (Lit.int .u16 cut0).wf = true) (w : World) (r1 : RowAt encB 4 w.heap.size w a1 l) (hf1 : (a1 = none ∧ l.length = 0 ∧ c1 = 0) ∨ ∃ b off, a1 = some ⟨b, off, none⟩) (r2 : RowAt encE 3 w.heap.size w a2 es) (hf2 : (a2 = none ∧ es.length = 0 ∧ c2 = 0) ∨ ∃ b off, a2 = some ⟨b, off, none⟩) (he : Env w) :
    Calls Tryz.prog 4 #[.slice a1 l.length c1, .string m, .slice a2 es.length c2, .int .u16 cut0] w fun e w' => e = .returned (.bool true) ∧ Below w.heap.size w w' := by
  obtain ⟨at1, rfl, hat1⟩ := limU16 hcut
  have he0 := Lib.hid he
  have r10 := Lib.hid r1
  have r20 := Lib.hid r2
  obtain ⟨N1, hN1⟩ : ∃ N1, l.length = N1 := ⟨_, rfl⟩
  obtain ⟨N, hN⟩ : ∃ N, es.length = N := ⟨_, rfl⟩
  have HL := Lib.hid fun u (hb : Below w.heap.size w u) => large_any l m es a1 a2 c1 c2 h1 h2 hc1 hc2 u ((r1.bel (Nat.le_refl _) hb).mono hb.size) ((r2.bel (Nat.le_refl _) hb).mono hb.size)
  obtain ⟨lg, hlg⟩ : ∃ lg, largeB l m es = lg := ⟨_, rfl⟩
  rw [hlg, hN1, hN] at HL
  have hsm : Hid (lg = false → (∀ x ∈ l, x.tag.size ≤ 60 ∧ x.mark.size ≤ 60) ∧ m.size ≤ 60 ∧ N ≤ 25 ∧ ∀ x ∈ es, x.name.size ≤ 60) := Lib.hid fun hl => by have := large_no (hlg.trans hl); rwa [hN] at this
  rw [hN1] at h1 ⊢
  rw [hN] at h2 ⊢
  have hcc := Lib.hid (And.intro h1 hc1)
  replace hN1 := Lib.hid hN1
  replace hN := Lib.hid hN
  clear he r1 r2 hcut hlg hf1 hf2 hc1 hc2
  go_enter Tryz.func4, Tryz.ntmps4
  go_wp2_with fail
  generalize hWW : World.alloc _ _ = W1
  have kX : At W1 w.heap.size 22 #[.slice a1 N1 c1] := by rw [← hWW]; first | exact At.new' rfl | exact At.al (At.new' rfl) _
  have kY : At W1 (w.heap.size + 1) 9 #[.string m] := by rw [← hWW]; exact At.new' (by simp)
  have HB : Below w.heap.size w W1 := by rw [← hWW]; exact below_al (below_al (Below.refl _ _) _) _
  clear hWW
  refine (awake_any W1).mono ?_
  rintro e w1 ⟨rfl, hb1⟩
  replace kX := At.bel kX hb1
  replace kY := At.bel kY hb1
  replace HB := below_then HB hb1
  clear hb1
  have x0 : w1.cell? ⟨w.heap.size, 0, none⟩ = some (.slice a1 N1 c1) := kX.c 0
  have y0 : w1.cell? ⟨w.heap.size + 1, 0, none⟩ = some (.string m) := kY.c 0
  go_wp2_with fail
  refine (HL.out _ HB).mono ?_
  rintro e w2 ⟨rfl, hb2⟩
  replace kX := At.bel kX hb2
  replace kY := At.bel kY hb2
  replace HB := below_then HB hb2
  clear hb2 HL x0 y0
  have x0 : w2.cell? ⟨w.heap.size, 0, none⟩ = some (.slice a1 N1 c1) := kX.c 0
  have y0 : w2.cell? ⟨w.heap.size + 1, 0, none⟩ = some (.string m) := kY.c 0
  rcases lg with _ | _
  rotate_left
  · go_wp2_with fail
    go_ret
    exact ⟨rfl, HB⟩
  replace hsm := Lib.hid (hsm.out (by first | rfl | trivial))
  have hrow2 : Hid (RowAt encB 4 w2.heap.size w2 a1 l) := Lib.hid ((r10.out.bel (Nat.le_refl _) HB).mono HB.size)
  have hres2 : Hid (RowAt encE 3 w2.heap.size w2 a2 es) := Lib.hid ((r20.out.bel (Nat.le_refl _) HB).mono HB.size)
  have HN := Lib.hid (new_any l m hsm.out.2.1 a1 c1 (by rw [hN1.out]; exact hcc.out.1) hcc.out.2 (Lib.hid hsm.out.1) w2 hrow2)
  rw [hN1.out] at HN
  obtain ⟨nk, hnk⟩ : ∃ nk, newOk l m = nk := ⟨_, rfl⟩
  go_wp2_with fail
  refine HN.out.mono ?_
  rintro e w3 ⟨hbad, hgood, hb3⟩
  rw [hnk] at hbad hgood
  have HB3 := below_then HB hb3
  clear HN
  rcases nk with _ | _
  · obtain rfl := hbad (by first | rfl | trivial)
    clear hgood hbad
    go_wp2_with fail
    go_ret
    exact ⟨rfl, HB3⟩
  obtain ⟨g, p, rfl, hs1, hfp⟩ := hgood (by first | rfl | trivial)
  have hL0 : Hid (Lone (fun x => x < w2.heap.size) w3 g (st0 l m)) := Lib.hid ⟨p, hs1, fun x hx h => by have := hfp x hx; omega⟩
  have hok0 := Lib.hid (st0_ok l m hnk hsm.out.1)
  have hKp := Lib.hid (run_known hnk hsm.out.1 hsm.out.2.2.2 (es := es))
  have hAl := Lib.hid (fun (T : St) (L : List Ent) (hv : logV L = true) (hp : playF L (st0 l m) = (0, T)) => alike_any hN1.out hsm.out.2.1 hcc.out.1 hcc.out.2 hsm.out.1 hrow2.out x0 y0 hnk hv hp)
  have HRp := Lib.hid (fun (b : List UInt8) (v : Value) (hb : b.length ≤ 1000000) (u : World) (hu : Below w2.heap.size w2 u) (hv : IsB b v u) => replay_any l m hsm.out.2.1 a1 c1 (by rw [hN1.out]; exact hcc.out.1) hcc.out.2 (Lib.hid hsm.out.1) b v hb u ((he0.out.bel HB).bel hu) (Lib.hid ((hrow2.out.bel (Nat.le_refl _) hu).mono hu.size)) hv)
  rw [hN1.out] at HRp
  have hnk2 := Lib.hid hnk
  obtain ⟨S, hS⟩ : ∃ S, runF es (st0 l m) = S := ⟨_, rfl⟩
  rw [hS] at hKp
  have hS0 : Hid (runF (es.drop 0) (st0 l m) = S) := Lib.hid hS
  have hbx := Lib.hid (fun (u : World) (hu : Below w2.heap.size w2 u) => And.intro (cell_up hu x0) (cell_up hu y0))
  have HBH := Lib.hid HB
  clear hgood hbad hs1 hfp HB3 HB x0 y0 kX kY hrow2 hnk hS
  obtain ⟨S1, hS1⟩ : ∃ S1, st0 l m = S1 := ⟨_, rfl⟩
  rw [hS1] at hL0 hok0 hS0
  clear hS1
  have hN25 : N ≤ 25 := hsm.out.2.2.1
  go_wp2_with fail
  go_loopg [50] N (fun g1 i wr => ∃ (k : Nat) (s : St), k ≤ N ∧ i = .int .i64 (k : Int) ∧ Hid (g1 = N - k) ∧ Hid s.ok ∧ Hid (Lone (fun x => x < w2.heap.size) wr g s) ∧ Hid (runF (es.drop k) s = S) ∧ Below w2.heap.size w2 wr)
  case atStart => exact ⟨0, S1, Nat.zero_le _, rfl, Lib.hid rfl, hok0, hL0, hS0, hb3⟩
  case round =>
    clear hok0 hL0 hS0 hb3
    obtain ⟨k, s, hk, rfl, hr, hok, hL, hP, HB⟩ := hrel
    by_cases hlt : k < N
    · have hkl : Hid (k < es.length) := Lib.hid (by rw [hN.out]; exact hlt)
      obtain ⟨bk, off, rfl, e0, e1, e2, hb⟩ := (show RowAt encE 3 w2.heap.size wr a2 es from hres2.out.bel (Nat.le_refl _) HB).ent k hkl.out
      have hxz := Lib.hid (hsm.out.2.2.2 _ (List.getElem_mem hkl.out))
      have hP2 := Lib.hid (show es.drop k = es[k]'hkl.out :: es.drop (k + 1) from List.drop_eq_getElem_cons hkl.out)
      obtain ⟨x, hx⟩ : ∃ x, es[k]'hkl.out = x := ⟨_, rfl⟩
      rw [hx] at e0 e1 e2 hxz hP2
      clear hx hb
      obtain ⟨xd, xk, xn⟩ := x
      dsimp only at e0 e1 e2 hxz
      have hok2 := Lib.hid (doS_ok s hok.out ⟨xd, xk, xn⟩ hxz.out)
      obtain ⟨D, hD⟩ : ∃ D, doS s ⟨xd, xk, xn⟩ = D := ⟨_, rfl⟩
      have hgo : Hid (runF (es.drop (k + 1)) D.2 = S) := Lib.hid (by
        have h := hP.out
        rw [hP2.out] at h
        rw [← hD]
        exact h)
      go_upto_region 11 with fail
      generalize hWW : World.alloc _ _ = W4
      have ky : At W4 wr.heap.size 39 #[.int .i64 xd, .int .i64 xk, .string xn] := by rw [← hWW]; exact At.new' rfl
      have hbW : Below wr.heap.size wr W4 := by rw [← hWW]; exact below_al (Below.refl _ _) _
      replace hL := Lib.hid (hL.out.up hbW)
      replace HB := below_then HB hbW
      obtain ⟨q0, q1, q2⟩ := ky.three
      clear hWW hbW e0 e1 e2
      have HD := Lib.hid (lone_do hL.out (fun x hx => Nat.lt_of_lt_of_le hx HB.size) hok.out xd xk xn hxz.out)
      rw [hD] at HD hok2
      go_wp2_with fail
      refine HD.out.mono ?_
      rintro e w5 ⟨rfl, hL5, hK5⟩
      replace hL5 := Lib.hid hL5
      replace HB := below_le HB (hK5.below (fun x hx => hx))
      clear hL HD hP hK5 q0 q1 q2 ky
      go_wp2_with fail
      go_roundg (N - (k + 1))
      case measure => have := hr.out; omega
      case rel => exact ⟨k + 1, D.2, by omega, by go_num, Lib.hid rfl, hok2, hL5, hgo, HB⟩
    · have hE : Hid (es.drop k = []) := Lib.hid (List.drop_eq_nil_of_le (by have := hN.out; omega))
      have hsT : s = S := by
        have h := hP.out
        rw [hE.out] at h
        exact h
      subst hsT
      obtain ⟨q, hq1, -⟩ := hL.out
      replace hq1 := Lib.hid hq1
      obtain ⟨K, hKk⟩ : ∃ K, s.kept = K := ⟨_, rfl⟩
      have hval : Hid (logV K = true) := Lib.hid (by rw [← hKk]; exact hKp.out.val)
      have hplay : Hid (playF K (st0 l m) = (0, s)) := Lib.hid (by rw [← hKk]; exact hKp.out.play)
      have hKn : Hid (K.length ≤ N) := Lib.hid (by rw [← hKk, ← hN.out]; exact hKp.out.len)
      have hKz : Hid (∀ x ∈ K, x.name.size ≤ 10000) := Lib.hid (names_le hval.out)
      have HE := Lib.hid (entries_any s hok.out g q wr hq1.out)
      rw [hKk] at HE
      replace hKk := Lib.hid hKk
      clear hE hP hL
      go_wp2_with fail
      refine HE.out.mono ?_
      rintro e v1 ⟨⟨kv, rfl, hkv⟩, b1⟩
      have hk1 : Hid (IsE K kv v1) := Lib.hid (row_isE hkv.out)
      replace HB := below_then HB b1
      replace hq1 := Lib.hid (hq1.out.bel b1)
      obtain ⟨ka, kn, kc, rfl, hkn, -, -⟩ := hk1.out.shape
      have hle : kn ≤ N := by rw [hkn]; exact hKn.out
      replace hkn := Lib.hid hkn
      have HC : Hid (Calls Tryz.prog 13 #[.slice ka kn kc] v1 fun e w' => EncP K true e w' ∧ Below v1.heap.size v1 w') := Lib.hid (by
        obtain ⟨a', c', e, z1, z2, z3⟩ := hk1.out
        injection e with e1 e2 e3
        have := encode_v K a' c' z1 z2 hKz.out v1 ((he0.out.bel HBH.out).bel HB) z3
        rw [hval.out] at this
        rw [e1, e2, e3]
        exact this)
      clear HE b1 hkv
      go_wp2_with fail
      refine HC.out.mono ?_
      rintro e v2 ⟨⟨-, hE2⟩, b2⟩
      obtain ⟨jv, rfl, hjv⟩ := hE2 (by first | rfl | trivial)
      replace HB := below_then HB b2
      replace hq1 := Lib.hid (hq1.out.bel b2)
      replace hk1 := Lib.hid (hk1.out.up b2)
      obtain ⟨ja, J, jc, rfl, hJ, -, -⟩ := hjv.out.shape
      have hJl : J ≤ 70000 := by rw [hJ]; exact (dec_enc hval.out).2.2
      obtain ⟨re1, re2⟩ := rep_enc hnk2.out hval.out hplay.out
      have HR := Lib.hid (HRp.out (encJ K) _ (by omega) v2 HB hjv.out)
      unfold RepPost at HR
      rw [re1, re2] at HR
      replace hJ := Lib.hid hJ
      obtain ⟨x0, y0⟩ := hbx.out v2 HB
      clear HC hE2 b2 re1 re2
      go_wp2_with fail
      refine HR.out.mono ?_
      rintro e v3 ⟨-, hg3, b3⟩
      obtain ⟨g2, p2, rfl, hs2, -⟩ := hg3 (by first | rfl | trivial)
      replace hs2 := Lib.hid hs2
      replace HB := below_then HB b3
      replace hq1 := Lib.hid (hq1.out.bel b3)
      replace hk1 := Lib.hid (hk1.out.up b3)
      replace hjv := Lib.hid (hjv.out.up b3)
      have hA := Lib.hid (hAl.out s K hval.out hplay.out)
      have HA1 := Lib.hid (hA.out v3 g2 p2 _ HB hs2.out hk1.out)
      clear HR hg3 b3 x0 y0
      go_wp2_with fail
      refine HA1.out.mono ?_
      rintro e v4 ⟨rfl, b4⟩
      replace HB := below_then HB b4
      replace hq1 := Lib.hid (hq1.out.bel b4)
      replace hk1 := Lib.hid (hk1.out.up b4)
      replace hjv := Lib.hid (hjv.out.up b4)
      have HA2 := Lib.hid (hA.out v4 g q _ HB hq1.out hk1.out)
      clear HA1 b4 hs2
      go_wp2_with fail
      refine HA2.out.mono ?_
      rintro e v5 ⟨rfl, b5⟩
      replace HB := below_then HB b5
      replace hk1 := Lib.hid (hk1.out.up b5)
      replace hjv := Lib.hid (hjv.out.up b5)
      clear HA2 b5 hA hq1
      obtain ⟨M, hM⟩ : ∃ M, J + 1 = M := ⟨_, rfl⟩
      obtain ⟨k2, hk2⟩ : ∃ k, at1 % M = k := ⟨_, rfl⟩
      have hk2J : k2 ≤ J := by have := Nat.mod_lt at1 (show 0 < M by omega); omega
      have hw1 : IntKind.i64.wrap ((J : Int) + 1) = (M : Int) := by rw [IntWalk.i64_in _ (by omega)]; omega
      have hrem : Int.tmod (at1 : Int) (M : Int) = (k2 : Int) := by rw [← hk2]; exact Int.ofNat_tmod at1 M
      have hM0 : ((M : Int) == 0) = false := by simp; omega
      replace hk2 := Lib.hid hk2
      obtain ⟨A1, hs1, hB1⟩ := hjv.out.hi k2 hk2J
      obtain ⟨i, er, gg1, gg2, gg3, gg4, gg5, gg6⟩ := good_begin hval.out (k := k2) (by have := hJ.out; omega)
      have htl : ((encJ K).take k2).length ≤ 70000 := by rw [List.length_take]; have := hJ.out; omega
      obtain ⟨eN, eB, eL, _, _⟩ := rec_good (b := (encJ K).take k2) (by omega) gg2
      have eB2 : recB ((encJ K).take k2) = encJ (K.take i) := by
        obtain ⟨u, hu⟩ := gg6
        rw [eB, List.take_take, Nat.min_eq_left gg4, hu, List.take_left]
      have hvi := Lib.hid (logV_take hval.out i)
      obtain ⟨Ti, hTi⟩ := playF_pre (K.take i) (K.drop i) (st0 l m) s (by rw [List.take_append_drop]; exact hplay.out)
      obtain ⟨re1, re2⟩ := rep_enc hnk2.out hvi.out hTi
      have hil : i ≤ kn := by rw [hkn.out]; exact gg1
      have hlen : (K.take i).length = i := by rw [List.length_take]; omega
      have hAi := Lib.hid (hAl.out Ti (K.take i) hvi.out hTi)
      have HR := Lib.hid (recover_v ((encJ K).take k2) _ (.inl (by omega)) v5 ((he0.out.bel HBH.out).bel HB) hB1)
      replace eN := Lib.hid eN
      replace eB2 := Lib.hid eB2
      replace eL := Lib.hid eL
      replace hlen := Lib.hid hlen
      have hre := Lib.hid (And.intro re1 re2)
      have hjl := Lib.hid (dec_enc hvi.out).2.2
      clear gg1 gg2 gg3 gg4 gg5 gg6 eB hTi re1 re2 htl hB1 hk2J
      go_wp2_with fail
      refine HR.out.mono ?_
      rintro e v6 ⟨⟨y, z, er2, rfl, hr2, hy, hz⟩, b6⟩
      have her : er2 = 0 := hr2.out.trans eN.out
      subst her
      have hy6 : Hid (IsB (encJ (K.take i)) y v6) := Lib.hid (by have := row_isB hy.out; rwa [eB2.out] at this)
      have hz6 : Hid (IsE (K.take i) z v6) := Lib.hid (by have := row_isE hz.out; rwa [eL.out] at this)
      obtain ⟨za, zn, zc, rfl, hzn, -⟩ := hz6.out.shape
      have hzn2 : zn = i := hzn.trans hlen.out
      subst hzn2
      obtain ⟨pa, pn, pc, rfl, -, -⟩ := hy6.out.shape
      replace HB := below_then HB b6
      replace hk1 := Lib.hid (hk1.out.up b6)
      have HP := Lib.hid (HRp.out (encJ (K.take zn)) _ (by have := hjl.out; omega) v6 HB hy6.out)
      unfold RepPost at HP
      rw [hre.out.1, hre.out.2] at HP
      obtain ⟨x0, y0⟩ := hbx.out v6 HB
      clear HR hr2 hy hz hzn b6 hz6 hs1 hw1 hrem hM0
      go_wp2_with fail
      refine HP.out.mono ?_
      rintro e v7 ⟨-, hg7, b7⟩
      obtain ⟨g3, p3, rfl, hs3, -⟩ := hg7 (by first | rfl | trivial)
      replace HB := below_then HB b7
      obtain ⟨hsl, hk3⟩ := (hk1.out.up b7).hi zn hil
      have HA3 := Lib.hid (hAi.out v7 g3 p3 _ HB hs3 hk3)
      clear HP hg7 b7 x0 y0 hs3 hk3
      go_wp2_with fail
      refine HA3.out.mono ?_
      rintro e v8 ⟨rfl, b8⟩
      replace HB := below_le HBH.out ((below_then HB b8).mono HBH.out.size)
      go_wp2_with fail
      go_ret
      exact ⟨rfl, HB⟩

end Go.Proofs.YtpocmijfkjjboaaGreatDoor
