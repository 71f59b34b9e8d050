/- journal: the walk of JournalAppends. -/
import Derived.Test.YtdcfpopbnkafaaaDoorJoN
import Derived.Test.YtdcfpopbnkafaaaDoorJoQ
set_option linter.unusedVariables false
namespace Go.Proofs.YtdcfpopbnkafaaaDoor
open Go.ChangeShapes Go.WideShapes Go.ChangeAt Go.RowKit

theorem lim64 {n : Int} (h : (Lit.int .i64 n).wf = true) : -9223372036854775808 ≤ n ∧ n ≤ 9223372036854775807 := by
  simp only [Lit.wf, Bool.and_eq_true, decide_eq_true_eq] at h
  have e1 : IntKind.i64.min = -9223372036854775808 := by decide
  have e2 : IntKind.i64.max = 9223372036854775807 := by decide
  rw [e1, e2] at h
  exact h
set_option maxRecDepth 100000 in
set_option maxHeartbeats 2000000 in
theorem journalAppends_walk (b : List UInt8) (v : Value) (xd xk : Int) (xn : ByteArray) (hd : (Lit.int .i64 xd).wf = true) (hk : (Lit.int .i64 xk).wf = true) (w : World) (hv : IsB b v w) (he : Env w) :
    Calls Tryd.prog 3 #[v, .agg #[.int .i64 xd, .int .i64 xk, .string xn]] w fun e w' => e = .returned (.bool true) ∧ Below w.heap.size w w' := by
  obtain ⟨a, n, c, rfl, -, -⟩ := hv.shape
  have he0 := Lib.hid he
  have hv0 := Lib.hid hv
  have hd0 := Lib.hid (lim64 hd)
  have hk0 := Lib.hid (lim64 hk)
  clear he hv hd hk
  go_enter Tryd.func3, Tryd.ntmps3
  go_wp2_with fail
  generalize hWW : World.alloc _ _ = W1
  have kx : At W1 w.heap.size 24 #[.int .i64 xd, .int .i64 xk, .string xn] := by rw [← hWW]; exact At.new' rfl
  have HB : Below w.heap.size w W1 := by rw [← hWW]; exact below_al (Below.refl _ _) _
  clear hWW
  refine (awake_v W1 (he0.out.bel HB)).mono ?_
  rintro e w1 ⟨rfl, hb1⟩
  replace kx := At.bel kx hb1
  replace HB := below_then HB hb1
  clear hb1
  obtain ⟨hh, hhh⟩ : ∃ hh, heavyB b.length = hh := ⟨_, rfl⟩
  have HH := Lib.hid (heavy_v b _ w1 (hv0.out.up HB))
  rw [hhh] at HH
  obtain ⟨x0, x1, x2⟩ := kx.three
  obtain ⟨q, hq⟩ : ∃ q, decide ((60 : Int) < (xn.size : Int)) = q := ⟨_, rfl⟩
  go_wp2_with fail
  refine HH.out.mono ?_
  rintro e wn ⟨rfl, rfl⟩
  clear HH
  rcases hh with _ | _
  rotate_left
  · clear hhh
    go_wp2_with fail
    go_ret
    exact ⟨rfl, HB⟩
  have hsz := heavy_no hhh
  clear hhh
  rcases q with _ | _
  rotate_left
  · clear hsz
    go_wp2_with fail
    go_ret
    exact ⟨rfl, HB⟩
  have hxn : xn.size ≤ 10000 := by
    have := of_decide_eq_false hq
    omega
  have hbl : Hid (b.length ≤ 100000 ∨ 1048576 < b.length) := Lib.hid (by omega)
  replace hxn := Lib.hid hxn
  have HP := Lib.hid (append_v b _ hbl.out xd xk xn hd0.out hk0.out hxn.out w1 (he0.out.bel HB) (hv0.out.up HB))
  clear hsz
  go_wp2_with fail
  refine HP.out.mono ?_
  rintro e w2 ⟨⟨y, er, rfl, her, hy⟩, hb2⟩
  replace kx := At.bel kx hb2
  replace HB := below_then HB hb2
  clear hb2 HP x0 x1 x2
  obtain ⟨x0, x1, x2⟩ := kx.three
  have HP := Lib.hid (refappend_v b _ hbl.out xd xk xn hd0.out hk0.out hxn.out w2 (hv0.out.up HB))
  go_wp2_with fail
  refine HP.out.mono ?_
  rintro e w3 ⟨⟨z, er2, rfl, her2, hz⟩, hb3⟩
  obtain rfl : er = er2 := her.out.trans her2.out.symm
  replace HB := below_then HB hb3
  have HE := Lib.hid (beq_v _ _ _ _ w3 (hy.out.up hb3) hz.out)
  rw [decide_eq_true (rfl : appB b ⟨xd, xk, xn⟩ = appB b ⟨xd, xk, xn⟩)] at HE
  obtain ⟨ya, yn, yc, rfl, -, -⟩ := hy.out.shape
  obtain ⟨za, zn, zc, rfl, -, -⟩ := hz.out.shape
  have hee : (er == er) = true := by simp
  clear hb3 HP her her2 hy hz
  go_wp2_with fail
  refine HE.out.mono ?_
  rintro e wn ⟨rfl, rfl⟩
  go_wp2_with fail
  go_ret
  exact ⟨rfl, HB⟩

end Go.Proofs.YtdcfpopbnkafaaaDoor
