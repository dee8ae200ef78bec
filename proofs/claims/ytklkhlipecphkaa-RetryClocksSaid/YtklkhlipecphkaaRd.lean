/- Retry: the law RetryNone. -/
import Derived.Test.YtklkhlipecphkaaRc
namespace Go.Proofs.Ytklkhlipecphkaa
open Go.RowKit Go.Joins Go.Maps
set_option maxRecDepth 100000
set_option linter.unusedVariables false

def intOf : Value → Int
  | .int _ z => z
  | _ => 0

/-- A clock that is none. -/
def NoClk (w : World) (p : Option Addr) : Prop := p = none ∨ ∃ B, p = some ⟨B, 0, none⟩ ∧ w.cell? ⟨B, 0, none⟩ = some (.int .i64 0)
theorem NoClk.below {w w' : World} {p : Option Addr} (h : NoClk w p) (hb : Below w.heap.size w w') : NoClk w' p := by
  rcases h with rfl | ⟨B, rfl, hc⟩
  · exact .inl rfl
  · exact .inr ⟨B, rfl, (hb.cell (World.block_lt_of_cell? _ _ hc)).trans hc⟩
theorem is_no {w : World} {p : Option Addr} (h : NoClk w p) : Calls Try.prog 52 #[.pointer p] w fun e w' => e = .returned (.bool false) ∧ w' = w := by
  rcases h with rfl | ⟨B, rfl, hc⟩
  · exact is_none w
  · exact is_zero B w hc

theorem Start_no {w : World} {p : Option Addr} (h : NoClk w p) (x : Int) : Calls Try.prog 23 #[.pointer p, .int .i64 x] w fun e w' => e = .returned (.tuple #[]) ∧ w' = w := by
  have HIS := Lib.hid (is_no h)
  clear h
  go_enter Try.func23, Try.ntmps23
  go_wp2_with fail
  refine HIS.out.mono ?_
  rintro e w1 ⟨rfl, rfl⟩
  go_wp2_with fail
  exact bodyPost_end (results_none rfl _ _ _) rfl ⟨rfl, rfl⟩
theorem Next_no {w : World} {p : Option Addr} (h : NoClk w p)  : Calls Try.prog 31 #[.pointer p] w fun e w' => e = .returned (.tuple #[.int .i64 0, .bool false]) ∧ w' = w := by
  have HIS := Lib.hid (is_no h)
  clear h
  go_enter Try.func31, Try.ntmps31
  go_wp2_with fail
  refine HIS.out.mono ?_
  rintro e w1 ⟨rfl, rfl⟩
  go_wp2_with fail
  go_ret2
  exact ⟨rfl, rfl⟩
theorem Now_no {w : World} {p : Option Addr} (h : NoClk w p)  : Calls Try.prog 32 #[.pointer p] w fun e w' => e = .returned (.int .i64 0) ∧ w' = w := by
  have HIS := Lib.hid (is_no h)
  clear h
  go_enter Try.func32, Try.ntmps32
  go_wp2_with fail
  refine HIS.out.mono ?_
  rintro e w1 ⟨rfl, rfl⟩
  go_wp2_with fail
  go_ret
  exact ⟨rfl, rfl⟩
theorem Tick_no {w : World} {p : Option Addr} (h : NoClk w p) (x : Int) : Calls Try.prog 28 #[.pointer p, .int .i64 x] w fun e w' => e = .returned (.int .i64 1) ∧ w' = w := by
  have HIS := Lib.hid (is_no h)
  clear h
  go_enter Try.func28, Try.ntmps28
  go_wp2_with fail
  refine HIS.out.mono ?_
  rintro e w1 ⟨rfl, rfl⟩
  go_wp2_with fail
  go_ret
  exact ⟨rfl, rfl⟩
theorem Stop_no {w : World} {p : Option Addr} (h : NoClk w p) (x : Int) : Calls Try.prog 25 #[.pointer p, .int .i64 x] w fun e w' => e = .returned (.bool false) ∧ w' = w := by
  have HIS := Lib.hid (is_no h)
  clear h
  go_enter Try.func25, Try.ntmps25
  go_wp2_with fail
  refine HIS.out.mono ?_
  rintro e w1 ⟨rfl, rfl⟩
  go_wp2_with fail
  go_ret
  exact ⟨rfl, rfl⟩
theorem Due_no {w : World} {p : Option Addr} (h : NoClk w p) (x : Int) : Calls Try.prog 27 #[.pointer p, .int .i64 x] w fun e w' => e = .returned (.bool false) ∧ w' = w := by
  have HIS := Lib.hid (is_no h)
  clear h
  go_enter Try.func27, Try.ntmps27
  go_wp2_with fail
  refine HIS.out.mono ?_
  rintro e w1 ⟨rfl, rfl⟩
  go_wp2_with fail
  go_ret
  exact ⟨rfl, rfl⟩
theorem Tried_no {w : World} {p : Option Addr} (h : NoClk w p) (x : Int) : Calls Try.prog 24 #[.pointer p, .int .i64 x] w fun e w' => e = .returned (.int .i64 1) ∧ w' = w := by
  have HIS := Lib.hid (is_no h)
  clear h
  go_enter Try.func24, Try.ntmps24
  go_wp2_with fail
  refine HIS.out.mono ?_
  rintro e w1 ⟨rfl, rfl⟩
  go_wp2_with fail
  go_ret
  exact ⟨rfl, rfl⟩
theorem Tries_no {w : World} {p : Option Addr} (h : NoClk w p) (x : Int) : Calls Try.prog 26 #[.pointer p, .int .i64 x] w fun e w' => e = .returned (.int .i64 0) ∧ w' = w := by
  have HIS := Lib.hid (is_no h)
  clear h
  go_enter Try.func26, Try.ntmps26
  go_wp2_with fail
  refine HIS.out.mono ?_
  rintro e w1 ⟨rfl, rfl⟩
  go_wp2_with fail
  go_ret
  exact ⟨rfl, rfl⟩

set_option maxHeartbeats 4000000 in
theorem RetryNone_row (a n : Int) (w : World) (_ : (Lit.int .i64 a).wf = true) (_ : (Lit.int .i64 n).wf = true) :
    Calls Try.prog 9 #[.int .i64 a, .int .i64 n] w fun e w' => e = .returned (.bool true) ∧ Below w.heap.size w w' := by
  go_enter Try.func9, Try.ntmps9
  go_wp2_with fail
  refine (awake_any _).mono ?_
  rintro e w1 ⟨rfl, hb1⟩
  go_wp2_with fail
  obtain ⟨W, hW⟩ : ∃ W, W = (w1.alloc (Obj.cells #[.int .i64 0, .int .i64 0, .int .i64 0, .map none] 70)).alloc (Obj.cells #[.pointer none, .pointer (some ⟨w1.heap.size, 0, none⟩)] 42) := ⟨_, rfl⟩
  have c0 : W.cell? ⟨w1.heap.size + 1, 0, none⟩ = some (.pointer none) := by rw [hW]; simp [go_sem]
  have c1 : W.cell? ⟨w1.heap.size + 1, 1, none⟩ = some (.pointer (some ⟨w1.heap.size, 0, none⟩)) := by rw [hW]; simp [go_sem]
  have n0 : NoClk W none := .inl rfl
  have n1 : NoClk W (some ⟨w1.heap.size, 0, none⟩) := .inr ⟨_, rfl, by rw [hW]; simp [go_sem]⟩
  have hbW : Below w.heap.size w W := by rw [hW]; exact (hb1.alloc hb1.size _).alloc (by have := hb1.size; simp; omega) _
  rw [← hW]
  clear hW
  go_loopw [7, 8, 9, 17] (fun _ _ _ i wr => ∃ k : Nat, k ≤ 2 ∧ i = .int .i64 (k : Int) ∧ wr = W) (fun _ _ _ i _ => 2 - (intOf i).toNat)
  case atStart => exact ⟨0, by omega, rfl, rfl⟩
  case round =>
    obtain ⟨k, hk, rfl, rfl⟩ := hrel
    by_cases hlt : k < 2
    · obtain ⟨p, hp, hc⟩ : ∃ p, NoClk wr p ∧ wr.cell? ⟨w1.heap.size + 1, k, none⟩ = some (.pointer p) := by
        rcases Nat.lt_or_ge k 1 with h | h
        · obtain rfl : k = 0 := by omega
          exact ⟨_, n0, c0⟩
        · obtain rfl : k = 1 := by omega
          exact ⟨_, n1, c1⟩
      have HP := Lib.hid hp
      clear hp c0 c1 n0 n1
      have e1 : decide ((k : Int) < 2) = true := decide_eq_true (by omega)
      go_wp2_with fail
      refine (Start_no HP.out a).mono ?_
      rintro e w2 ⟨rfl, rfl⟩
      go_wp2_with fail
      refine (Next_no HP.out).mono ?_
      rintro e w2 ⟨rfl, rfl⟩
      go_wp2_with fail
      refine (Now_no HP.out).mono ?_
      rintro e w2 ⟨rfl, rfl⟩
      go_wp2_with fail
      refine (Tick_no HP.out n).mono ?_
      rintro e w2 ⟨rfl, rfl⟩
      go_wp2_with fail
      refine (Stop_no HP.out a).mono ?_
      rintro e w2 ⟨rfl, rfl⟩
      go_wp2_with fail
      refine (Due_no HP.out a).mono ?_
      rintro e w2 ⟨rfl, rfl⟩
      go_wp2_with fail
      refine (Tried_no HP.out a).mono ?_
      rintro e w2 ⟨rfl, rfl⟩
      go_wp2_with fail
      refine (Tries_no HP.out a).mono ?_
      rintro e w2 ⟨rfl, rfl⟩
      go_wp2_with fail
      go_roundw
      case rel => exact ⟨k + 1, by omega, by go_num, trivial⟩
      case measure => simp [intOf]; omega
    · have e1 : decide ((k : Int) < 2) = false := decide_eq_false (by omega)
      go_wp2_with fail
      go_ret
      exact ⟨rfl, hbW⟩
end Go.Proofs.Ytklkhlipecphkaa
