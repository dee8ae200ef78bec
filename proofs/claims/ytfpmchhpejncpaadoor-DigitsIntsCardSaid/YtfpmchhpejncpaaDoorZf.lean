/- Digits: the law of whole numbers: the walk. -/
import Derived.Test.YtfpmchhpejncpaaDoorZe
import Derived.Test.YtfpmchhpejncpaaDoorX
namespace Go.Proofs.YtfpmchhpejncpaaDoor
open Go.RowKit
set_option maxRecDepth 100000
set_option linter.unusedVariables false
theorem intT_form (l : List UInt8) : ∃ (x c : Int), intT l = .tuple #[.int .i64 x, .int .i64 c] := by
  unfold intT
  split
  · exact ⟨_, _, rfl⟩
  · split
    · exact ⟨_, _, rfl⟩
    · split <;> exact ⟨_, _, rfl⟩
set_option maxHeartbeats 8000000 in
theorem Ints_row0 (n : Int) (s : ByteArray) (hn : fits n) (tp : TypeId) (p : Value) (w : World) (ht : Tab w) (hr : Ran w tp p) : Calls Tryd.prog 8 #[.int .i64 n, .string s] w fun e w' => e = .returned (.bool true) ∧ Below w.heap.size w w' := by
  have HT := Lib.hid ht
  have HRA := Lib.hid hr
  have HWH := Lib.hid (fun W hW => Whole_any n hn W hW)
  have HRW := Lib.hid (fun W => rWhole_any n hn W)
  obtain ⟨I, hI⟩ : ∃ I : ByteArray, I = ⟨(Lib.itoa n).toArray⟩ := ⟨_, rfl⟩
  rw [← hI] at HWH HRW
  clear hI hn ht hr
  go_enter Tryd.func8, Tryd.ntmps8
  go_wp2_with fail
  refine (awake_any _ HT.out).mono ?_
  rintro e w1 ⟨rfl, hb1⟩
  have B1 := Lib.hid hb1
  clear hb1
  by_cases h300 : 300 < s.size
  · have d1 : decide (300 < (s.size : Int)) = true := decide_eq_true (by omega)
    go_wp2_with fail
    go_ret
    exact ⟨rfl, B1.out⟩
  · have d1 : decide (300 < (s.size : Int)) = false := decide_eq_false (by omega)
    obtain ⟨x, c, hf⟩ := intT_form s.data.toList
    have H1 := Lib.hid (fun W hW => Int_any s (by omega) tp p W hW)
    have H2 := Lib.hid (fun W => rInt_any s (by omega) W)
    rw [hf] at H1 H2
    clear hf
    go_wp2_with fail
    refine (H1.out _ (HRA.out.below B1.out (Nat.le_refl _))).mono ?_
    rintro e w3 ⟨rfl, hb3⟩
    have B3 := Lib.hid (B1.out.trans (hb3.mono B1.out.size))
    clear hb3
    go_wp2_with fail
    refine (H2.out _).mono ?_
    rintro e w4 ⟨rfl, hb4⟩
    have B4 := Lib.hid (B3.out.trans (hb4.mono B3.out.size))
    clear hb4
    go_wp2_with fail
    refine (HWH.out _ (HT.out.below B4.out (Nat.le_refl _))).mono ?_
    rintro e w5 ⟨rfl, hb5⟩
    have B5 := Lib.hid (B4.out.trans (hb5.mono B4.out.size))
    clear hb5
    go_wp2_with fail
    refine (HRW.out _).mono ?_
    rintro e w6 ⟨rfl, hb6⟩
    have B6 := Lib.hid (B5.out.trans (hb6.mono B5.out.size))
    clear hb6
    go_wp2_with fail
    go_ret
    exact ⟨rfl, B6.out⟩
theorem Ints_row (n : Int) (s : ByteArray) (w : World) (hn : (Lit.int .i64 n).wf = true) (hs : s.size ≤ 140737488351232) (ht : Tab w) (hr : ∃ tp p, Ran w tp p) : Calls Tryd.prog 8 #[.int .i64 n, .string s] w fun e w' => e = .returned (.bool true) ∧ Below w.heap.size w w' := by
  obtain ⟨tp, p, hr⟩ := hr
  exact Ints_row0 n s (wf64 hn) tp p w ht hr
end Go.Proofs.YtfpmchhpejncpaaDoor
