/- Digits: the law of Parse: the walk. -/
import Derived.Test.YtfpmchhpejncpaaDoorZ
import Derived.Test.YtfpmchhpejncpaaDoorX
namespace Go.Proofs.YtfpmchhpejncpaaDoor
open Go.RowKit
set_option maxRecDepth 100000
set_option linter.unusedVariables false
theorem parseT_form (l : List UInt8) : ∃ (x : Int) (b : Bool) (c : Int), parseT l = .tuple #[.int .i64 x, .bool b, .int .i64 c] := by
  unfold parseT
  split
  · exact ⟨_, _, _, rfl⟩
  · split <;> exact ⟨_, _, _, rfl⟩
set_option maxHeartbeats 8000000 in
theorem Parse_row (s : ByteArray) (w : World) (hs : s.size ≤ 140737488351232) (ht : Tab w) : Calls Tryd.prog 4 #[.string s] w fun e w' => e = .returned (.bool true) ∧ Below w.heap.size w w' := by
  have HT := Lib.hid ht
  go_enter Tryd.func4, Tryd.ntmps4
  go_wp2_with fail
  refine (awake_any _ HT.out).mono ?_
  rintro e w1 ⟨rfl, hb1⟩
  have B1 := Lib.hid hb1
  clear hb1 ht
  by_cases h300 : 300 < s.size
  · have d1 : decide (300 < (s.size : Int)) = true := decide_eq_true (by omega)
    go_wp2_with fail
    go_ret
    exact ⟨rfl, B1.out⟩
  · have d1 : decide (300 < (s.size : Int)) = false := decide_eq_false (by omega)
    obtain ⟨x, b, c, hf⟩ := parseT_form s.data.toList
    have H1 := Lib.hid (fun W => Parse_any s (by omega) W)
    have H2 := Lib.hid (fun W => rParse_any s (by omega) W)
    rw [hf] at H1 H2
    clear hf
    go_wp2_with fail
    refine (H1.out _).mono ?_
    rintro e w3 ⟨rfl, hb3⟩
    have B3 := Lib.hid (B1.out.trans (hb3.mono B1.out.size))
    clear hb3
    go_wp2_with fail
    refine (H2.out _).mono ?_
    rintro e w4 ⟨rfl, hb4⟩
    have B4 := Lib.hid (B3.out.trans (hb4.mono B3.out.size))
    clear hb4
    go_wp2_with fail
    go_ret
    exact ⟨rfl, B4.out⟩
end Go.Proofs.YtfpmchhpejncpaaDoor
