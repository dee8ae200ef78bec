/- Walks: right; the closure of a round. -/
import Derived.Test.YtcojiienmmmihaaKit
namespace Go.Proofs.Ytcojiienmmmihaa
open Go.RowKit Go.Joins
set_option maxRecDepth 100000
set_option linter.unusedVariables false

theorem right_yes (n i : Int) (w : World) (h0 : 1 ≤ n) (h1 : n ≤ 65536) (h2 : 0 ≤ i) (h3 : i < n) :
    Calls Try.prog 48 #[.int .i64 n, .int .i64 i] w fun e w' => e = .returned (.bool true) ∧ w = w' := by
  go_enter Try.func48, Try.ntmps48
  go_wp2_with fail
  go_ret
  exact ⟨rfl, rfl⟩
theorem right_no (n i : Int) (w : World) (h : n < 1 ∨ 65536 < n ∨ i < 0 ∨ n ≤ i) :
    Calls Try.prog 48 #[.int .i64 n, .int .i64 i] w fun e w' => e = .returned (.bool false) ∧ w = w' := by
  by_cases h1 : n < 1
  · go_enter Try.func48, Try.ntmps48
    go_wp2_with fail
    go_ret
    exact ⟨rfl, rfl⟩
  by_cases h2 : 65536 < n
  · go_enter Try.func48, Try.ntmps48
    go_wp2_with fail
    go_ret
    exact ⟨rfl, rfl⟩
  by_cases h3 : i < 0
  · go_enter Try.func48, Try.ntmps48
    go_wp2_with fail
    go_ret
    exact ⟨rfl, rfl⟩
  have h4 : n ≤ i := by omega
  clear h
  go_enter Try.func48, Try.ntmps48
  go_wp2_with fail
  go_ret
  refine ⟨?_, rfl⟩
  show Ending.returned (.bool (decide (i < n))) = _
  rw [decide_eq_false (by omega)]

/-- What a round takes of a word. -/
def M.mixh (s : Nat) (a b c : Int) (h t r : Nat) : Nat := M.word s a b c ((1024 * t + r : Nat) : Int) % 2 ^ h
theorem M.mixh_lt (s : Nat) (a b c : Int) (h t r : Nat) : M.mixh s a b c h t r < 2 ^ h := Nat.mod_lt _ (Nat.two_pow_pos h)

theorem and_form (x h : Nat) (hx : x < 18446744073709551616) (hh : h ≤ 63) : bits .and .u64 (x : Int) ((2 ^ h - 1 : Nat) : Int) = ((x % 2 ^ h : Nat) : Int) := by
  have hp : 2 ^ h ≤ 2 ^ 63 := Nat.pow_le_pow_right (by omega) hh
  rw [bits_and_u64_nat x (2 ^ h - 1) hx (by omega), Nat.and_two_pow_sub_one_eq_mod]

set_option maxHeartbeats 1000000 in
theorem mix_any (s : Nat) (a b c : Int) (h t r K T M' : Nat) (w : World) (ht : t < 4) (hr : r < 65536) (hh : h ≤ 63)
    (k0 : w.cell? ⟨K, 0, none⟩ = some (.int .u64 (s : Int))) (k1 : w.cell? ⟨K, 1, none⟩ = some (.int .i64 a)) (k2 : w.cell? ⟨K, 2, none⟩ = some (.int .i64 b)) (k3 : w.cell? ⟨K, 3, none⟩ = some (.int .i64 c))
    (t0 : w.cell? ⟨T, 0, none⟩ = some (.int .i64 (t : Int))) (m0 : w.cell? ⟨M', 0, none⟩ = some (.int .u64 ((2 ^ h - 1 : Nat) : Int))) :
    Calls Try.prog 59 #[.int .u64 (r : Int), .pointer (some ⟨K, 0, none⟩), .pointer (some ⟨T, 0, none⟩), .pointer (some ⟨M', 0, none⟩)] w fun e w' => e = .returned (.int .u64 (M.mixh s a b c h t r : Nat)) ∧ Below w.heap.size w w' := by
  have hform := Lib.hid (and_form (M.word s a b c ((1024 * t + r : Nat) : Int)) h (M.word_lt _ _ _ _ _) hh)
  have hK := World.block_lt_of_cell? w _ k0
  have hT := World.block_lt_of_cell? w _ t0
  have hM := World.block_lt_of_cell? w _ m0
  obtain ⟨m, hm⟩ : ∃ m, m = 2 ^ h - 1 := ⟨_, rfl⟩
  rw [← hm] at m0 hform
  clear hm
  have e1 : (1024 : Int) * (t : Int) + (r : Int) = ((1024 * t + r : Nat) : Int) := by omega
  have E1 := Lib.hid e1
  have cword := Lib.hid (fun w => Word_any s a b c ((1024 * t + r : Nat) : Int) w)
  obtain ⟨W, hW⟩ : ∃ W, W = M.word s a b c ((1024 * t + r : Nat) : Int) := ⟨_, rfl⟩
  have hWM := Lib.hid (show M.mixh s a b c h t r = W % 2 ^ h by rw [hW]; rfl)
  rw [← hW] at hform cword
  clear hW e1
  go_enter Try.func59, Try.ntmps59
  go_wp2_with fail
  have hne : Nonempty (Cls w.heap.size w) := ⟨⟨w, Below.refl _ _, Nat.le_refl _⟩⟩
  have x0 : ∀ x : Cls w.heap.size w, x.w.cell? ⟨K, 0, none⟩ = some (.int .u64 (s : Int)) := fun x => (x.below.cell (p := ⟨K, 0, none⟩) hK).trans k0
  have x1 : ∀ x : Cls w.heap.size w, x.w.cell? ⟨K, 1, none⟩ = some (.int .i64 a) := fun x => (x.below.cell (p := ⟨K, 1, none⟩) hK).trans k1
  have x2 : ∀ x : Cls w.heap.size w, x.w.cell? ⟨K, 2, none⟩ = some (.int .i64 b) := fun x => (x.below.cell (p := ⟨K, 2, none⟩) hK).trans k2
  have x3 : ∀ x : Cls w.heap.size w, x.w.cell? ⟨K, 3, none⟩ = some (.int .i64 c) := fun x => (x.below.cell (p := ⟨K, 3, none⟩) hK).trans k3
  have x4 : ∀ x : Cls w.heap.size w, x.w.cell? ⟨T, 0, none⟩ = some (.int .i64 (t : Int)) := fun x => (x.below.cell (p := ⟨T, 0, none⟩) hT).trans t0
  have x5 : ∀ x : Cls w.heap.size w, x.w.cell? ⟨M', 0, none⟩ = some (.int .u64 (m : Int)) := fun x => (x.below.cell (p := ⟨M', 0, none⟩) hM).trans m0
  refine wp_region_calm (by kernel_rfl) (by kernel_rfl) (Below.refl _ _) (Nat.le_refl _) ?_
  repeat (go_big_quiet_step (first | (go_at_call 16; (first | rw [E1.out] | skip); exact calm (cword.out _))))
  refine wpQuiet_nil ?_
  rintro w4 ⟨x, hx⟩
  have hB4 := x.below
  rw [← hx] at hB4
  clear hx x0 x1 x2 x3 x4 x5 hne k0 k1 k2 k3 t0 m0
  go_wp2_with fail
  rw [hform.out, ← hWM.out]
  go_ret
  exact ⟨rfl, hB4⟩
end Go.Proofs.Ytcojiienmmmihaa
