/- DecimalJoined's walk: it returns true at every text. -/
import Derived.Test.YtdbgfeeglnpobaaDoorDcL
set_option linter.unusedVariables false
namespace Go.Proofs.YtdbgfeeglnpobaaDoor
open Go.ChangeShapes Go.WideShapes Go.ChangeAt Go.RowKit

set_option maxRecDepth 100000 in
theorem joined_long (s : ByteArray) (hs : (1000 : Int) < (s.size : Int)) (w : World) (he : EnvJ w) :
    Calls Tryd.prog 10 #[.string s] w fun e w' => e = .returned (.bool true) ∧ Below w.heap.size w w' := by
  have he0 := Lib.hid he
  have zz : decide ((1000 : Int) < (s.size : Int)) = true := by simpa using hs
  clear he hs
  go_enter Tryd.func10, Tryd.ntmps10
  go_wp2_with fail
  refine (awake_any w he0.out.tab).mono ?_
  rintro e w1 ⟨rfl, HB⟩
  go_wp2_with fail
  go_ret
  exact ⟨rfl, HB⟩
set_option maxRecDepth 100000 in
theorem joined_bad (s : ByteArray) (hz : s.size ≤ 1000) (w : World) (he : EnvJ w) (p : Int × Int) (er : Int) (R : tokS (by_ s) = ([], p, er)) (her : er ≠ 0) :
    Calls Tryd.prog 10 #[.string s] w fun e w' => e = .returned (.bool true) ∧ Below w.heap.size w w' := by
  have he0 := Lib.hid he
  have zz : decide ((1000 : Int) < (s.size : Int)) = false := by simp; omega
  have HT1 := Lib.hid (fun u => tokens_any s u)
  rw [R] at HT1
  obtain ⟨px, py⟩ := p
  have e1 : (er != 0) = true := by simpa using her
  clear he R hz her
  go_enter Tryd.func10, Tryd.ntmps10
  go_wp2_with fail
  refine (awake_any w he0.out.tab).mono ?_
  rintro e w1 ⟨rfl, HB⟩
  go_wp2_with fail
  refine (HT1.out w1).mono ?_
  rintro e w2 ⟨⟨t1, rfl, hown1⟩, hb2⟩
  obtain ⟨a1, cap1, rfl, hc1, ta⟩ := own_tok hown1
  have HB2 := below_then HB hb2
  clear hown1 hb2 HT1 HB ta hc1
  dsimp only [List.length_nil]
  go_wp2_with fail
  go_ret
  exact ⟨rfl, below_al HB2 _⟩
theorem decimalJoined_walk (s : ByteArray) (w : World) (he : EnvJ w) :
    Calls Tryd.prog 10 #[.string s] w fun e w' => e = .returned (.bool true) ∧ Below w.heap.size w w' := by
  by_cases hz : s.size ≤ 1000
  · rcases joined (s := by_ s) (by rw [by_len]; exact hz) with ⟨p, er, h1, h2⟩ | ⟨r, e, ts, h1, h2, _, h4, h5, h6, h7, h8⟩
    · exact joined_bad s hz w he p er h1 h2
    · exact joined_law s hz w he r e ts h1 h2 h4 h5 h6 h7 h8
  · exact joined_long s (by omega) w he

end Go.Proofs.YtdbgfeeglnpobaaDoor
