/- Retry: awake, the laws RetryWaits, RetryNone. -/
import Derived.Test.YtklkhlipecphkaaRb
namespace Go.Proofs.Ytklkhlipecphkaa
open Go.RowKit Go.Joins Go.Maps
set_option maxRecDepth 100000
set_option linter.unusedVariables false

/-- The law's answer: true; what lay before lies as it lay. -/
def Yes (w : World) (e : Ending) (w' : World) : Prop := e = .returned (.bool true) ∧ Below w.heap.size w w'

set_option maxHeartbeats 2000000 in
theorem awake_any (w : World) : Calls Try.prog 12 #[] w (Yes w) := by
  go_enter Try.func12, Try.ntmps12
  go_wp2_with fail
  refine (Wait_yes 2 7 3 _ (by omega) (by omega) (by omega) (by omega) (by omega)).mono ?_
  rintro e w1 ⟨rfl, rfl⟩
  rw [show M.wait 2 7 3 = 7 from rfl]
  go_wp2_with fail
  refine (New_yes 2 7 _ (by omega) (by omega) (by omega)).mono ?_
  rintro e w2 ⟨B, Mb, rfl, hk2, hb2⟩
  have HK2 := Lib.hid hk2
  have HB2 := Lib.hid hb2
  clear hk2 hb2
  go_wp2_with fail
  refine (Start_yes HK2.out (by omega) (by unfold maxLen; omega) (x := 1) (by decide)).mono ?_
  rintro e w3 ⟨rfl, hk3, hb3⟩
  have HK3 := Lib.hid hk3
  have HB3 := Lib.hid (HB2.out.trans hb3)
  clear hk3 hb3
  go_wp2_with fail
  refine (Due_yes HK3.out (by omega) (x := 1) (by decide)).mono ?_
  rintro e w4 ⟨rfl, hb4⟩
  have HK4 := Lib.hid (HK3.out.below hb4)
  have HB4 := Lib.hid (HB3.out.trans (hb4.mono (HB3.out.size)))
  clear hb4
  rw [show dueB (upd (fun _ => none) 1 (some (0, 0))) 1 0 = true from rfl]
  go_wp2_with fail
  refine (Tried_yes (t := 0) HK4.out (by omega) (by omega) (by omega) (by unfold maxLen; omega) (x := 1) (by decide) (upd_same _ _ _) (by omega) (by omega) (by omega)).mono ?_
  rintro e w5 ⟨rfl, hk5, hb5⟩
  rw [show M.wait 2 7 (0 + 1) = 2 from rfl] at hk5
  have HK5 := Lib.hid hk5
  have HB5 := Lib.hid (HB4.out.trans hb5)
  clear hk5 hb5
  go_wp2_with fail
  refine (Tick_yes HK5.out (by omega) (k := 1) (by omega) (by omega) (by omega) (by omega)).mono ?_
  rintro e w6 ⟨rfl, hk6, hb6⟩
  have HK6 := Lib.hid hk6
  have HB6 := Lib.hid (HB5.out.trans hb6)
  clear hk6 hb6
  go_wp2_with fail
  refine (Due_yes HK6.out (by omega) (x := 1) (by decide)).mono ?_
  rintro e w7 ⟨rfl, hb7⟩
  have HK7 := Lib.hid (HK6.out.below hb7)
  have HB7 := Lib.hid (HB6.out.trans (hb7.mono (HB6.out.size)))
  clear hb7
  rw [show dueB (upd (upd (fun _ => none) 1 (some (0, 0))) 1 (some (0 + ((2 : Nat) : Int), ((0 + 1 : Nat) : Int)))) 1 (0 + 1) = false from rfl]
  go_wp2_with fail
  refine (Tick_yes HK7.out (by omega) (k := 1) (by omega) (by omega) (by omega) (by omega)).mono ?_
  rintro e w8 ⟨rfl, hk8, hb8⟩
  have HK8 := Lib.hid hk8
  have HB8 := Lib.hid (HB7.out.trans hb8)
  clear hk8 hb8
  go_wp2_with fail
  refine (Due_yes HK8.out (by omega) (x := 1) (by decide)).mono ?_
  rintro e w9 ⟨rfl, hb9⟩
  have HB9 := Lib.hid (HB8.out.trans (hb9.mono (HB8.out.size)))
  clear hb9
  rw [show dueB (upd (upd (fun _ => none) 1 (some (0, 0))) 1 (some (0 + ((2 : Nat) : Int), ((0 + 1 : Nat) : Int)))) 1 (0 + 1 + 1) = true from rfl]
  go_wp2_with fail
  go_ret
  exact ⟨rfl, HB9.out⟩

theorem RetryWaits_yes (a b n : Nat) (w : World) (h0 : 1 ≤ a) (h1 : a ≤ b) (h2 : b ≤ 1024) (h3 : 1 ≤ n) (h4 : n < 9223372036854775808) : Calls Try.prog 3 #[.int .i64 (a : Int), .int .i64 (b : Int), .int .i64 (n : Int)] w (Yes w) := by
  have HD := Lib.hid (decide_eq_true (show 1 ≤ (a : Int) ∧ (a : Int) ≤ 1024 ∧ (a : Int) ≤ (b : Int) ∧ (b : Int) ≤ 1024 by omega))
  have d1 : decide ((n : Int) < 1) = false := decide_eq_false (by omega)
  go_enter Try.func3, Try.ntmps3
  go_wp2_with fail
  refine (awake_any _).mono ?_
  rintro e w1 ⟨rfl, hb1⟩
  go_wp2_with fail
  refine (Wait_yes a b n _ h0 h1 h2 h3 h4).mono ?_
  rintro e w2 ⟨rfl, rfl⟩
  go_wp2_with fail
  refine (rRight_any _ _ _).mono ?_
  rintro e w3 ⟨rfl, rfl⟩
  rw [HD.out]
  go_wp2_with fail
  refine (rWait_any a b n _ h0 (by omega) h2 h3 h4).mono ?_
  rintro e w4 ⟨rfl, rfl⟩
  go_wp2_with fail
  go_ret
  exact ⟨rfl, hb1⟩
theorem RetryWaits_no1 (a b n : Int) (w : World) (h : ¬ (1 ≤ a ∧ a ≤ 1024 ∧ a ≤ b ∧ b ≤ 1024)) : Calls Try.prog 3 #[.int .i64 a, .int .i64 b, .int .i64 n] w (Yes w) := by
  have HD := Lib.hid (decide_eq_false h)
  go_enter Try.func3, Try.ntmps3
  go_wp2_with fail
  refine (awake_any _).mono ?_
  rintro e w1 ⟨rfl, hb1⟩
  go_wp2_with fail
  refine (Wait_no1 a b n _ h).mono ?_
  rintro e w2 ⟨rfl, rfl⟩
  go_wp2_with fail
  refine (rRight_any _ _ _).mono ?_
  rintro e w3 ⟨rfl, rfl⟩
  rw [HD.out]
  go_wp2_with fail
  go_ret
  exact ⟨rfl, hb1⟩
theorem RetryWaits_no2 (a b n : Int) (w : World) (h : (1 ≤ a ∧ a ≤ 1024 ∧ a ≤ b ∧ b ≤ 1024)) (hn : n < 1) : Calls Try.prog 3 #[.int .i64 a, .int .i64 b, .int .i64 n] w (Yes w) := by
  have HD := Lib.hid (decide_eq_true h)
  have d1 := decide_eq_true hn
  go_enter Try.func3, Try.ntmps3
  go_wp2_with fail
  refine (awake_any _).mono ?_
  rintro e w1 ⟨rfl, hb1⟩
  go_wp2_with fail
  refine (Wait_no2 a b n _ h hn).mono ?_
  rintro e w2 ⟨rfl, rfl⟩
  go_wp2_with fail
  refine (rRight_any _ _ _).mono ?_
  rintro e w3 ⟨rfl, rfl⟩
  rw [HD.out]
  go_wp2_with fail
  go_ret
  exact ⟨rfl, hb1⟩
theorem bounds_i64 {n : Int} (h : (Lit.int .i64 n).wf = true) : -9223372036854775808 ≤ n ∧ n ≤ 9223372036854775807 := by
  simp [Lit.wf, IntKind.min, IntKind.max, IntKind.signed, IntKind.bits] at h
  omega
theorem RetryWaits_row (a b n : Int) (w : World) (_ : (Lit.int .i64 a).wf = true) (_ : (Lit.int .i64 b).wf = true) (hn : (Lit.int .i64 n).wf = true) :
    Calls Try.prog 3 #[.int .i64 a, .int .i64 b, .int .i64 n] w fun e w' => e = .returned (.bool true) ∧ Below w.heap.size w w' := by
  have hb := bounds_i64 hn
  by_cases h : 1 ≤ a ∧ a ≤ 1024 ∧ a ≤ b ∧ b ≤ 1024
  · by_cases h1 : n < 1
    · exact RetryWaits_no2 a b n w h h1
    obtain ⟨a', rfl⟩ : ∃ m : Nat, a = m := ⟨a.toNat, by omega⟩
    obtain ⟨b', rfl⟩ : ∃ m : Nat, b = m := ⟨b.toNat, by omega⟩
    obtain ⟨n', rfl⟩ : ∃ m : Nat, n = m := ⟨n.toNat, by omega⟩
    exact RetryWaits_yes a' b' n' w (by omega) (by omega) (by omega) (by omega) (by omega)
  · exact RetryWaits_no1 a b n w h
end Go.Proofs.Ytklkhlipecphkaa
