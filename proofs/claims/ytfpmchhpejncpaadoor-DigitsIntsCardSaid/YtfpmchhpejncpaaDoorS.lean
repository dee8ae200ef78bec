/- Digits: the laws of text, minus, noughts and order: the walks. -/
import Derived.Test.YtfpmchhpejncpaaDoorR
import Derived.Test.YtfpmchhpejncpaaDoorE2
namespace Go.Proofs.YtfpmchhpejncpaaDoor
open Go.RowKit
set_option maxRecDepth 100000
set_option linter.unusedVariables false
set_option maxHeartbeats 4000000 in
theorem law3_any (a : Int) (h1 : -9223372036854775808 ≤ a) (h2 : a ≤ 9223372036854775807) (w : World) (ht : Tab w) : Calls Tryd.prog 3 #[.int .i64 a] w fun e w' => e = .returned (.bool true) ∧ Below w.heap.size w w' := by
  have HT := Lib.hid ht
  obtain ⟨below, m, ha, hm, hb, hp⟩ : ∃ (below : Bool) (m : Nat), (a = if below = true then -(m : Int) else m) ∧ m ≤ 9223372036854775808 ∧ (below = true → 1 ≤ m) ∧ (below = false → m ≤ 9223372036854775807) := by
    by_cases h : a < 0
    · exact ⟨true, a.natAbs, by simp only [if_true]; omega, by omega, (fun _ => by omega), fun h => by cases h⟩
    · exact ⟨false, a.natAbs, by simp only [Bool.false_eq_true, if_false]; omega, by omega, (fun h => by cases h), fun _ => by omega⟩
  have HX := Lib.hid (fun W hW => Text_any below a m ha hm hb hp W hW)
  have HY := Lib.hid (fun W => rText_any below a m ha hm hb hp W)
  obtain ⟨T, hT⟩ : ∃ T, T = textL below m := ⟨_, rfl⟩
  rw [← hT] at HX HY
  clear hT ha hm hb hp ht
  go_enter Tryd.func3, Tryd.ntmps3
  go_wp2_with fail
  refine (awake_any _ HT.out).mono ?_
  rintro e w1 ⟨rfl, hb1⟩
  have B1 := Lib.hid hb1
  clear hb1
  go_wp2_with fail
  refine (HX.out _ (HT.out.below B1.out (Nat.le_refl _))).mono ?_
  rintro e w2 ⟨rfl, hb2⟩
  have B2 := Lib.hid (B1.out.trans (hb2.mono B1.out.size))
  clear hb2
  go_wp2_with fail
  refine (HY.out _).mono ?_
  rintro e w3 ⟨rfl, hb3⟩
  have B3 := Lib.hid (B2.out.trans (hb3.mono B2.out.size))
  clear hb3
  go_wp2_with fail
  go_ret
  exact ⟨rfl, B3.out⟩
theorem dash_list (s : ByteArray) : ((⟨#[45]⟩ : ByteArray) ++ s).data.toList = 45 :: s.data.toList := by simp
theorem dash_size (s : ByteArray) : ((⟨#[45]⟩ : ByteArray) ++ s).size = s.size + 1 := by rw [lsize, dash_list, List.length_cons, ← lsize]
set_option maxHeartbeats 8000000 in
theorem law6_any (s : ByteArray) (hs : s.size ≤ 140737488355328) (w : World) (ht : Tab w) : Calls Tryd.prog 6 #[.string s] w fun e w' => e = .returned (.bool true) ∧ Below w.heap.size w w' := by
  have HT := Lib.hid ht
  have HP := Lib.hid (fun W => PartsB_any s hs W)
  go_enter Tryd.func6, Tryd.ntmps6
  go_wp2_with fail
  refine (awake_any _ HT.out).mono ?_
  rintro e w1 ⟨rfl, hb1⟩
  have B1 := Lib.hid hb1
  clear hb1
  go_wp2_with fail
  refine (HP.out _).mono ?_
  rcases hpl : partsL s.data.toList with _ | ⟨bl, AL, BL⟩
  · rw [hpl] at *
    rintro e w2 ⟨rfl, bl, ok, A, B, rfl, rfl⟩
    clear hpl HP
    go_wp2_with fail
    go_ret
    exact ⟨rfl, B1.out⟩
  · have HPL := Lib.hid hpl
    clear HP hpl
    rintro e w2 ⟨rfl, bl2, ok, A, B, rfl, rfl, rfl, hA, hB⟩
    cases bl2 with
    | true =>
      clear hA hB
      go_wp2_with fail
      go_ret
      exact ⟨rfl, B1.out⟩
    | false =>
      clear hA hB
      by_cases h300 : 300 < s.size
      · have d1 : decide (300 < (s.size : Int)) = true := decide_eq_true (by omega)
        go_wp2_with fail
        go_ret
        exact ⟨rfl, B1.out⟩
      · have d1 : decide (300 < (s.size : Int)) = false := decide_eq_false (by omega)
        have H1 := Lib.hid (fun W => Parse_any s (by omega) W)
        have H2 := Lib.hid (fun W => Parse_any (⟨#[45]⟩ ++ s) (by rw [dash_size]; omega) W)
        rw [dash_list] at H2
        have HM := Lib.hid (minus_parts HPL.out)
        by_cases hl : 20 < AL.length ∨ 40 < BL.length
        · rw [parseT_long HPL.out hl] at H1
          rw [parseT_long HM.out hl] at H2
          clear hl
          go_wp2_with fail
          refine (H1.out _).mono ?_
          rintro e w3 ⟨rfl, hb3⟩
          have B3 := Lib.hid (B1.out.trans (hb3.mono B1.out.size))
          clear hb3
          go_wp2_with fail
          refine (H2.out _).mono ?_
          rintro e w4 ⟨rfl, hb4⟩
          have B4 := Lib.hid (B3.out.trans (hb4.mono B3.out.size))
          clear hb4
          go_wp2_with fail
          go_ret
          exact ⟨rfl, B4.out⟩
        · rw [parseT_some HPL.out hl] at H1
          rw [parseT_some HM.out hl] at H2
          have h0 := sumOf_nonneg HPL.out (by omega)
          obtain ⟨T, hT⟩ : ∃ T, T = sumOf AL BL := ⟨_, rfl⟩
          rw [← hT] at h0 H1 H2
          simp only [if_true, Bool.false_eq_true, if_false] at H1 H2
          clear hl hT HM HPL
          by_cases hov : 9223372036854775807 < T
          · have s1 : satB T = true := decide_eq_true (by omega)
            have s2 : sat (-T) = -9223372036854775808 := by unfold sat; split; rfl; rw [if_neg (by omega)]; omega
            rw [s1] at H1
            rw [s2] at H2
            clear s1 s2 hov h0
            go_wp2_with fail
            refine (H1.out _).mono ?_
            rintro e w3 ⟨rfl, hb3⟩
            have B3 := Lib.hid (B1.out.trans (hb3.mono B1.out.size))
            clear hb3
            go_wp2_with fail
            refine (H2.out _).mono ?_
            rintro e w4 ⟨rfl, hb4⟩
            have B4 := Lib.hid (B3.out.trans (hb4.mono B3.out.size))
            clear hb4
            go_wp2_with fail
            go_ret
            exact ⟨rfl, B4.out⟩
          · have s1 : satB T = false := decide_eq_false (by omega)
            have s2 : sat (-T) = -T := by unfold sat; rw [if_neg (by omega), if_neg (by omega)]
            have s3 : satB (-T) = false := decide_eq_false (by omega)
            have s4 : sat T = T := by unfold sat; rw [if_neg (by omega), if_neg (by omega)]
            rw [s1, s4] at H1
            rw [s2, s3] at H2
            clear s1 s2 s3 s4
            have hw : IntKind.i64.wrap (-T) = -T := by rw [IntKind.wrap_i64]; omega
            go_wp2_with fail
            refine (H1.out _).mono ?_
            rintro e w3 ⟨rfl, hb3⟩
            have B3 := Lib.hid (B1.out.trans (hb3.mono B1.out.size))
            clear hb3
            go_wp2_with fail
            refine (H2.out _).mono ?_
            rintro e w4 ⟨rfl, hb4⟩
            have B4 := Lib.hid (B3.out.trans (hb4.mono B3.out.size))
            clear hb4
            go_wp2_with fail
            go_ret
            exact ⟨rfl, B4.out⟩
end Go.Proofs.YtfpmchhpejncpaaDoor
