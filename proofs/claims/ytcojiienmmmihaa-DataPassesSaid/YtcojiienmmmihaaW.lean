/- Walks: the law RandPlaces. -/
import Derived.Test.YtcojiienmmmihaaV
import Derived.Test.YtcojiienmmmihaaG
namespace Go.Proofs.Ytcojiienmmmihaa
open Go.RowKit Go.Joins
set_option maxRecDepth 100000
set_option linter.unusedVariables false

theorem Back_no (s : Nat) (a b c n i : Int) (w : World) (h : n < 1 ∨ 65536 < n ∨ i < 0 ∨ n ≤ i) :
    Calls Try.prog 28 #[.agg #[.int .u64 (s : Int), .int .i64 a, .int .i64 b, .int .i64 c], .int .i64 n, .int .i64 i] w fun e w' => e = .returned (.tuple #[.int .i64 0, .int .i64 2]) ∧ Below w.heap.size w w' := by
  have H := Lib.hid h
  clear h
  go_enter Try.func28, Try.ntmps28
  go_wp2_with fail
  refine wp_scope_jumps 0 (fun _ _ => False) (fun _ _ => 0) rfl ?_ (fun _ _ h => h.elim)
  go_wp2_with fail
  refine (right_no n i _ H.out).mono ?_
  rintro e w1 ⟨rfl, rfl⟩
  go_wp2_with fail
  simp only [Exit.jump]
  go_ret2
  exact ⟨rfl, (Below.refl _ _).alloc (Nat.le_refl _) _⟩

set_option maxHeartbeats 4000000 in
theorem RandPlaces_no0 (s : Nat) (a b c n i : Int) (w : World) (h : (n < 1)) : Calls Try.prog 8 #[.agg #[.int .u64 (s : Int), .int .i64 a, .int .i64 b, .int .i64 c], .int .i64 n, .int .i64 i] w (Yes w) := by
  have HO : Hid ((n < 1) ∨ (65536 < n) ∨ (i < 0) ∨ (n ≤ i)) := Lib.hid (by omega)
  have hd0 : decide (n < 1) = true := decide_eq_true h
  go_enter Try.func8, Try.ntmps8
  go_wp2_with fail
  refine (awake_any _).mono ?_
  rintro e w1 ⟨rfl, hb1⟩
  have hB1 : Below (w.heap.size + 1) (w.alloc (Obj.cells #[.int .u64 (s : Int), .int .i64 a, .int .i64 b, .int .i64 c] 24)) w1 := hb1.mono (by simp)
  have hs1 := Below.le hB1 (by simp)
  clear hb1
  obtain ⟨k0, k1, k2, k3⟩ := key_cells hB1
  go_wp2_with fail
  refine (Place_no s a b c n i _ HO.out).mono ?_
  rintro e w2 ⟨rfl, hb2⟩
  have hB2 := after_call hB1 hs1 hb2
  have hs2 := Below.le hB2 (by simp)
  clear hb2 hB1 hs1 k0 k1 k2 k3
  obtain ⟨k0, k1, k2, k3⟩ := key_cells hB2
  go_wp2_with fail
  refine (Back_no s a b c n i _ HO.out).mono ?_
  rintro e w3 ⟨rfl, hb3⟩
  have hB3 := after_call hB2 hs2 hb3
  have hs3 := Below.le hB3 (by simp)
  clear hb3 hB2 hs2 k0 k1 k2 k3
  obtain ⟨k0, k1, k2, k3⟩ := key_cells hB3
  go_wp2_with fail
  go_ret
  exact ⟨rfl, ((Below.refl _ _).alloc (Nat.le_refl _) _).trans (hB3.mono (by omega))⟩

set_option maxHeartbeats 4000000 in
theorem RandPlaces_no1 (s : Nat) (a b c n i : Int) (w : World) (h : (65536 < n)) (h0 : ¬ (n < 1)) : Calls Try.prog 8 #[.agg #[.int .u64 (s : Int), .int .i64 a, .int .i64 b, .int .i64 c], .int .i64 n, .int .i64 i] w (Yes w) := by
  have HO : Hid ((n < 1) ∨ (65536 < n) ∨ (i < 0) ∨ (n ≤ i)) := Lib.hid (by omega)
  have hd0 : decide (n < 1) = false := decide_eq_false h0
  have hd1 : decide (65536 < n) = true := decide_eq_true h
  go_enter Try.func8, Try.ntmps8
  go_wp2_with fail
  refine (awake_any _).mono ?_
  rintro e w1 ⟨rfl, hb1⟩
  have hB1 : Below (w.heap.size + 1) (w.alloc (Obj.cells #[.int .u64 (s : Int), .int .i64 a, .int .i64 b, .int .i64 c] 24)) w1 := hb1.mono (by simp)
  have hs1 := Below.le hB1 (by simp)
  clear hb1
  obtain ⟨k0, k1, k2, k3⟩ := key_cells hB1
  go_wp2_with fail
  refine (Place_no s a b c n i _ HO.out).mono ?_
  rintro e w2 ⟨rfl, hb2⟩
  have hB2 := after_call hB1 hs1 hb2
  have hs2 := Below.le hB2 (by simp)
  clear hb2 hB1 hs1 k0 k1 k2 k3
  obtain ⟨k0, k1, k2, k3⟩ := key_cells hB2
  go_wp2_with fail
  refine (Back_no s a b c n i _ HO.out).mono ?_
  rintro e w3 ⟨rfl, hb3⟩
  have hB3 := after_call hB2 hs2 hb3
  have hs3 := Below.le hB3 (by simp)
  clear hb3 hB2 hs2 k0 k1 k2 k3
  obtain ⟨k0, k1, k2, k3⟩ := key_cells hB3
  go_wp2_with fail
  go_ret
  exact ⟨rfl, ((Below.refl _ _).alloc (Nat.le_refl _) _).trans (hB3.mono (by omega))⟩

set_option maxHeartbeats 4000000 in
theorem RandPlaces_no2 (s : Nat) (a b c n i : Int) (w : World) (h : (i < 0)) (h0 : ¬ (n < 1)) (h1 : ¬ (65536 < n)) : Calls Try.prog 8 #[.agg #[.int .u64 (s : Int), .int .i64 a, .int .i64 b, .int .i64 c], .int .i64 n, .int .i64 i] w (Yes w) := by
  have HO : Hid ((n < 1) ∨ (65536 < n) ∨ (i < 0) ∨ (n ≤ i)) := Lib.hid (by omega)
  have hd0 : decide (n < 1) = false := decide_eq_false h0
  have hd1 : decide (65536 < n) = false := decide_eq_false h1
  have hd2 : decide (i < 0) = true := decide_eq_true h
  go_enter Try.func8, Try.ntmps8
  go_wp2_with fail
  refine (awake_any _).mono ?_
  rintro e w1 ⟨rfl, hb1⟩
  have hB1 : Below (w.heap.size + 1) (w.alloc (Obj.cells #[.int .u64 (s : Int), .int .i64 a, .int .i64 b, .int .i64 c] 24)) w1 := hb1.mono (by simp)
  have hs1 := Below.le hB1 (by simp)
  clear hb1
  obtain ⟨k0, k1, k2, k3⟩ := key_cells hB1
  go_wp2_with fail
  refine (Place_no s a b c n i _ HO.out).mono ?_
  rintro e w2 ⟨rfl, hb2⟩
  have hB2 := after_call hB1 hs1 hb2
  have hs2 := Below.le hB2 (by simp)
  clear hb2 hB1 hs1 k0 k1 k2 k3
  obtain ⟨k0, k1, k2, k3⟩ := key_cells hB2
  go_wp2_with fail
  refine (Back_no s a b c n i _ HO.out).mono ?_
  rintro e w3 ⟨rfl, hb3⟩
  have hB3 := after_call hB2 hs2 hb3
  have hs3 := Below.le hB3 (by simp)
  clear hb3 hB2 hs2 k0 k1 k2 k3
  obtain ⟨k0, k1, k2, k3⟩ := key_cells hB3
  go_wp2_with fail
  go_ret
  exact ⟨rfl, ((Below.refl _ _).alloc (Nat.le_refl _) _).trans (hB3.mono (by omega))⟩

set_option maxHeartbeats 4000000 in
theorem RandPlaces_no3 (s : Nat) (a b c n i : Int) (w : World) (h : (n ≤ i)) (h0 : ¬ (n < 1)) (h1 : ¬ (65536 < n)) (h2 : ¬ (i < 0)) : Calls Try.prog 8 #[.agg #[.int .u64 (s : Int), .int .i64 a, .int .i64 b, .int .i64 c], .int .i64 n, .int .i64 i] w (Yes w) := by
  have HO : Hid ((n < 1) ∨ (65536 < n) ∨ (i < 0) ∨ (n ≤ i)) := Lib.hid (by omega)
  have hd0 : decide (n < 1) = false := decide_eq_false h0
  have hd1 : decide (65536 < n) = false := decide_eq_false h1
  have hd2 : decide (i < 0) = false := decide_eq_false h2
  have hd3 : decide (n ≤ i) = true := decide_eq_true h
  go_enter Try.func8, Try.ntmps8
  go_wp2_with fail
  refine (awake_any _).mono ?_
  rintro e w1 ⟨rfl, hb1⟩
  have hB1 : Below (w.heap.size + 1) (w.alloc (Obj.cells #[.int .u64 (s : Int), .int .i64 a, .int .i64 b, .int .i64 c] 24)) w1 := hb1.mono (by simp)
  have hs1 := Below.le hB1 (by simp)
  clear hb1
  obtain ⟨k0, k1, k2, k3⟩ := key_cells hB1
  go_wp2_with fail
  refine (Place_no s a b c n i _ HO.out).mono ?_
  rintro e w2 ⟨rfl, hb2⟩
  have hB2 := after_call hB1 hs1 hb2
  have hs2 := Below.le hB2 (by simp)
  clear hb2 hB1 hs1 k0 k1 k2 k3
  obtain ⟨k0, k1, k2, k3⟩ := key_cells hB2
  go_wp2_with fail
  refine (Back_no s a b c n i _ HO.out).mono ?_
  rintro e w3 ⟨rfl, hb3⟩
  have hB3 := after_call hB2 hs2 hb3
  have hs3 := Below.le hB3 (by simp)
  clear hb3 hB2 hs2 k0 k1 k2 k3
  obtain ⟨k0, k1, k2, k3⟩ := key_cells hB3
  go_wp2_with fail
  go_ret
  exact ⟨rfl, ((Below.refl _ _).alloc (Nat.le_refl _) _).trans (hB3.mono (by omega))⟩

set_option maxHeartbeats 4000000 in
theorem RandPlaces_some (s : Nat) (a b c : Int) (n i : Nat) (w : World) (h1 : n ≤ 65536) (hi : i < n) : Calls Try.prog 8 #[.agg #[.int .u64 (s : Int), .int .i64 a, .int .i64 b, .int .i64 c], .int .i64 (n : Int), .int .i64 (i : Int)] w (Yes w) := by
  have hp0 := M.plc_lt s a b c h1 hi
  have hq0 := M.bck_lt s a b c h1 hi
  have hbp0 := M.bck_plc s a b c h1 hi
  have hpb0 := M.plc_bck s a b c h1 hi
  obtain ⟨p, hpp⟩ : ∃ p, p = M.plc s a b c n i := ⟨_, rfl⟩
  obtain ⟨q, hqq⟩ : ∃ q, q = M.bck s a b c n i := ⟨_, rfl⟩
  rw [← hpp] at hp0 hbp0
  rw [← hqq] at hq0 hpb0
  have HP := Lib.hid hpp
  have HQ := Lib.hid hqq
  have HBP := Lib.hid hbp0
  have HPB := Lib.hid hpb0
  have hp := hp0
  have hq := hq0
  have d0 : decide ((n : Int) < 1) = false := decide_eq_false (by omega)
  have d1 : decide ((65536 : Int) < (n : Int)) = false := decide_eq_false (by omega)
  have d2 : decide ((i : Int) < 0) = false := decide_eq_false (by omega)
  have d3 : decide ((n : Int) ≤ (i : Int)) = false := decide_eq_false (by omega)
  have d4 : decide (n ≤ i) = false := decide_eq_false (by omega)
  clear hpp hqq hp0 hq0 hbp0 hpb0
  go_enter Try.func8, Try.ntmps8
  go_wp2_with fail
  refine (awake_any _).mono ?_
  rintro e w1 ⟨rfl, hb1⟩
  have hB1 : Below (w.heap.size + 1) (w.alloc (Obj.cells #[.int .u64 (s : Int), .int .i64 a, .int .i64 b, .int .i64 c] 24)) w1 := hb1.mono (by simp)
  have hs1 := Below.le hB1 (by simp)
  clear hb1
  obtain ⟨k0, k1, k2, k3⟩ := key_cells hB1
  go_wp2_with fail
  refine (Place_any s a b c n i _ h1 hi).mono ?_
  rintro e w2 ⟨rfl, hb2⟩
  rw [← HP.out]
  have hB2 := after_call hB1 hs1 hb2
  have hs2 := Below.le hB2 (by simp)
  clear hb2 hB1 hs1 k0 k1 k2 k3
  obtain ⟨k0, k1, k2, k3⟩ := key_cells hB2
  go_wp2_with fail
  refine (Back_any s a b c n i _ h1 hi).mono ?_
  rintro e w3 ⟨rfl, hb3⟩
  rw [← HQ.out]
  have hB3 := after_call hB2 hs2 hb3
  have hs3 := Below.le hB3 (by simp)
  clear hb3 hB2 hs2 k0 k1 k2 k3
  obtain ⟨k0, k1, k2, k3⟩ := key_cells hB3
  go_wp2_with fail
  refine (Back_any s a b c n p _ h1 hp).mono ?_
  rintro e w4 ⟨rfl, hb4⟩
  rw [HBP.out]
  have hB4 := after_call hB3 hs3 hb4
  have hs4 := Below.le hB4 (by simp)
  clear hb4 hB3 hs3 k0 k1 k2 k3
  obtain ⟨k0, k1, k2, k3⟩ := key_cells hB4
  go_wp2_with fail
  refine (key_any s a b c _).mono ?_
  rintro e w5 ⟨rfl, hb5⟩
  have hB5 := after_call hB4 hs4 hb5
  have hs5 := Below.le hB5 (by simp)
  clear hb5 hB4 hs4 k0 k1 k2 k3
  obtain ⟨k0, k1, k2, k3⟩ := key_cells hB5
  go_wp2_with fail
  refine (rPlace_any s a b c n i _ h1 hi).mono ?_
  rintro e w6 ⟨rfl, hb6⟩
  rw [← HP.out]
  have hB6 := after_call hB5 hs5 hb6
  have hs6 := Below.le hB6 (by simp)
  clear hb6 hB5 hs5 k0 k1 k2 k3
  obtain ⟨k0, k1, k2, k3⟩ := key_cells hB6
  go_wp2_with fail
  refine (key_any s a b c _).mono ?_
  rintro e w7 ⟨rfl, hb7⟩
  have hB7 := after_call hB6 hs6 hb7
  have hs7 := Below.le hB7 (by simp)
  clear hb7 hB6 hs6 k0 k1 k2 k3
  obtain ⟨k0, k1, k2, k3⟩ := key_cells hB7
  go_wp2_with fail
  refine (rPlace_any s a b c n q _ h1 hq).mono ?_
  rintro e w8 ⟨rfl, hb8⟩
  rw [HPB.out]
  have hB8 := after_call hB7 hs7 hb8
  have hs8 := Below.le hB8 (by simp)
  clear hb8 hB7 hs7 k0 k1 k2 k3
  obtain ⟨k0, k1, k2, k3⟩ := key_cells hB8
  go_wp2_with fail
  go_ret
  exact ⟨rfl, ((Below.refl _ _).alloc (Nat.le_refl _) _).trans (hB8.mono (by omega))⟩


theorem RandPlaces_row (s a b c n i : Int) (w : World) (hs : (Lit.int .u64 s).wf = true) (_ : (Lit.int .i64 a).wf = true) (_ : (Lit.int .i64 b).wf = true) (_ : (Lit.int .i64 c).wf = true) (hn : (Lit.int .i64 n).wf = true) (hi : (Lit.int .i64 i).wf = true) :
    Calls Try.prog 8 #[.agg #[.int .u64 s, .int .i64 a, .int .i64 b, .int .i64 c], .int .i64 n, .int .i64 i] w fun e w' => e = .returned (.bool true) ∧ Below w.heap.size w w' := by
  obtain ⟨q, rfl, _⟩ := nat_of_u64 hs
  have hb := bounds_i64 hn
  by_cases h0 : n < 1
  · exact RandPlaces_no0 q a b c n i w h0
  by_cases h1 : 65536 < n
  · exact RandPlaces_no1 q a b c n i w h1 h0
  by_cases h2 : i < 0
  · exact RandPlaces_no2 q a b c n i w h2 h0 h1
  by_cases h3 : n ≤ i
  · exact RandPlaces_no3 q a b c n i w h3 h0 h1 h2
  obtain ⟨m, rfl⟩ : ∃ m : Nat, n = m := ⟨n.toNat, by omega⟩
  obtain ⟨j, rfl⟩ : ∃ j : Nat, i = j := ⟨i.toNat, by omega⟩
  exact RandPlaces_some q a b c m j w (by omega) (by omega)

end Go.Proofs.Ytcojiienmmmihaa
