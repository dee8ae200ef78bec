/- Walks: the law RandPerms. -/
import Derived.Test.YtcojiienmmmihaaI
namespace Go.Proofs.Ytcojiienmmmihaa
open Go.RowKit Go.Joins
set_option maxRecDepth 100000

theorem own_cells {w : World} {B g n cap : Nat} {L : List Int} (h : w.ownsRow B 3 1 (.slice (some ⟨g, 0, none⟩) n cap) n (L.map (Value.int .i64))) (hL : L.length = n) : ∀ k, k < n → w.cell? ⟨g, k, none⟩ = some (.int .i64 (nth L k)) := by
  intro k hk
  rw [h.cellAt k (by omega), nth_def]
  exact getD_map_int L k (by omega)

theorem perm_len (f : Nat → Nat) (n : Nat) : (M.perm f n).length = n := by unfold M.perm; rw [M.shuf_length]; simp [M.upTo]

set_option maxHeartbeats 1000000 in
theorem RandPerms_far (s : Nat) (a b c n : Int) (w : World) (h0 : 300 < n) (h1 : n ≤ 65536) : Calls Try.prog 5 #[.agg #[.int .u64 (s : Int), .int .i64 a, .int .i64 b, .int .i64 c], .int .i64 n] w (Yes w) := by
  go_enter Try.func5, Try.ntmps5
  go_wp2_with fail
  refine (awake_any _).mono ?_
  rintro e w1 ⟨rfl, hb1⟩
  have hB1 : Below (w.heap.size + 1) (w.alloc (Obj.cells #[.int .u64 (s : Int), .int .i64 a, .int .i64 b, .int .i64 c] 24)) w1 := hb1.mono (by simp)
  have hs1 := Below.le hB1 (by simp)
  clear hb1
  obtain ⟨k0, k1, k2, k3⟩ := key_cells hB1
  go_wp2_with fail
  go_ret
  exact ⟨rfl, ((Below.refl _ _).alloc (Nat.le_refl _) _).trans (hB1.mono (by omega))⟩

set_option maxHeartbeats 1000000 in
theorem RandPerms_low (s : Nat) (a b c n : Int) (w : World) (h : n < 0) : Calls Try.prog 5 #[.agg #[.int .u64 (s : Int), .int .i64 a, .int .i64 b, .int .i64 c], .int .i64 n] w (Yes w) := by
  go_enter Try.func5, Try.ntmps5
  go_wp2_with fail
  refine (awake_any _).mono ?_
  rintro e w1 ⟨rfl, hb1⟩
  have hB1 : Below (w.heap.size + 1) (w.alloc (Obj.cells #[.int .u64 (s : Int), .int .i64 a, .int .i64 b, .int .i64 c] 24)) w1 := hb1.mono (by simp)
  have hs1 := Below.le hB1 (by simp)
  clear hb1
  obtain ⟨k0, k1, k2, k3⟩ := key_cells hB1
  go_wp2_with fail
  refine (Perm_none s a b c n _ (by omega)).mono ?_
  rintro e w2 ⟨rfl, hb2⟩
  have hB2 := after_call hB1 hs1 hb2
  have hs2 := Below.le hB2 (by simp)
  clear hb2 hB1 hs1 k0 k1 k2 k3
  obtain ⟨k0, k1, k2, k3⟩ := key_cells hB2
  go_wp2_with fail
  go_ret
  exact ⟨rfl, ((Below.refl _ _).alloc (Nat.le_refl _) _).trans (hB2.mono (by omega))⟩

set_option maxHeartbeats 1000000 in
theorem RandPerms_high (s : Nat) (a b c n : Int) (w : World) (h : 65536 < n) : Calls Try.prog 5 #[.agg #[.int .u64 (s : Int), .int .i64 a, .int .i64 b, .int .i64 c], .int .i64 n] w (Yes w) := by
  have h2 : ¬ n < 0 := by omega
  have h3 : 300 < n := by omega
  go_enter Try.func5, Try.ntmps5
  go_wp2_with fail
  refine (awake_any _).mono ?_
  rintro e w1 ⟨rfl, hb1⟩
  have hB1 : Below (w.heap.size + 1) (w.alloc (Obj.cells #[.int .u64 (s : Int), .int .i64 a, .int .i64 b, .int .i64 c] 24)) w1 := hb1.mono (by simp)
  have hs1 := Below.le hB1 (by simp)
  clear hb1
  obtain ⟨k0, k1, k2, k3⟩ := key_cells hB1
  go_wp2_with fail
  refine (Perm_none s a b c n _ (by omega)).mono ?_
  rintro e w2 ⟨rfl, hb2⟩
  have hB2 := after_call hB1 hs1 hb2
  have hs2 := Below.le hB2 (by simp)
  clear hb2 hB1 hs1 k0 k1 k2 k3
  obtain ⟨k0, k1, k2, k3⟩ := key_cells hB2
  go_wp2_with fail
  go_ret
  exact ⟨rfl, ((Below.refl _ _).alloc (Nat.le_refl _) _).trans (hB2.mono (by omega))⟩

set_option maxHeartbeats 1000000 in
theorem RandPerms_zero (s : Nat) (a b c : Int) (w : World)  : Calls Try.prog 5 #[.agg #[.int .u64 (s : Int), .int .i64 a, .int .i64 b, .int .i64 c], .int .i64 ((0 : Nat) : Int)] w (Yes w) := by
  go_enter Try.func5, Try.ntmps5
  go_wp2_with fail
  refine (awake_any _).mono ?_
  rintro e w1 ⟨rfl, hb1⟩
  have hB1 : Below (w.heap.size + 1) (w.alloc (Obj.cells #[.int .u64 (s : Int), .int .i64 a, .int .i64 b, .int .i64 c] 24)) w1 := hb1.mono (by simp)
  have hs1 := Below.le hB1 (by simp)
  clear hb1
  obtain ⟨k0, k1, k2, k3⟩ := key_cells hB1
  go_wp2_with fail
  refine (Perm_zero s a b c _).mono ?_
  rintro e w2 ⟨g, cap, rfl, hown, hb2⟩
  have hB2 := after_call hB1 hs1 hb2
  have hs2 := Below.le hB2 (by simp)
  clear hb2 hB1 hs1 k0 k1 k2 k3
  obtain ⟨k0, k1, k2, k3⟩ := key_cells hB2
  clear hown
  go_wp2_with fail
  refine (key_any s a b c _).mono ?_
  rintro e w3 ⟨rfl, hb3⟩
  have hB3 := after_call hB2 hs2 hb3
  have hs3 := Below.le hB3 (by simp)
  clear hb3 hB2 hs2 k0 k1 k2 k3
  obtain ⟨k0, k1, k2, k3⟩ := key_cells hB3
  go_wp2_with fail
  refine (rPerm_some s a b c 0 _ (by omega)).mono ?_
  rintro e w4 ⟨v, rfl, hown4, hb4⟩
  have hB4 := after_call hB3 hs3 hb4
  have hs4 := Below.le hB4 (by simp)
  clear hb4 hB3 hs3 k0 k1 k2 k3
  obtain ⟨k0, k1, k2, k3⟩ := key_cells hB4
  rcases ownsRow_forms hown4 with ⟨rfl, _⟩ | ⟨g4, cap4, rfl⟩
  all_goals
    clear hown4
    go_wp2_with fail
    refine wp_loop_rounds 1 ?_
    rw [rounds_succ]
    go_wp2_with fail
    go_ret
    exact ⟨rfl, ((Below.refl _ _).alloc (Nat.le_refl _) _).trans (hB4.mono (by omega))⟩

set_option maxHeartbeats 1000000 in
theorem RandPerms_some (s : Nat) (a b c : Int) (n : Nat) (w : World) (h0 : 1 ≤ n) (h1 : n ≤ 300) : Calls Try.prog 5 #[.agg #[.int .u64 (s : Int), .int .i64 a, .int .i64 b, .int .i64 c], .int .i64 (n : Int)] w (Yes w) := by
  have hn0 : ¬ (n : Int) < 0 := by omega
  have hn1 : ¬ (300 : Int) < n := by omega
  have hn2 : ¬ (65536 : Int) < n := by omega
  go_enter Try.func5, Try.ntmps5
  go_wp2_with fail
  refine (awake_any _).mono ?_
  rintro e w1 ⟨rfl, hb1⟩
  have hB1 : Below (w.heap.size + 1) (w.alloc (Obj.cells #[.int .u64 (s : Int), .int .i64 a, .int .i64 b, .int .i64 c] 24)) w1 := hb1.mono (by simp)
  have hs1 := Below.le hB1 (by simp)
  clear hb1
  obtain ⟨k0, k1, k2, k3⟩ := key_cells hB1
  go_wp2_with fail
  refine (Perm_some s a b c n _ h0 (by omega)).mono ?_
  rintro e w2 ⟨g, cap, rfl, hown, hb2⟩
  have hB2 := after_call hB1 hs1 hb2
  have hs2 := Below.le hB2 (by simp)
  clear hb2 hB1 hs1 k0 k1 k2 k3
  obtain ⟨k0, k1, k2, k3⟩ := key_cells hB2
  go_wp2_with fail
  refine (key_any s a b c _).mono ?_
  rintro e w3 ⟨rfl, hb3⟩
  have hown3 := owns_below hown hb3
  clear hown
  have hB3 := after_call hB2 hs2 hb3
  have hs3 := Below.le hB3 (by simp)
  clear hb3 hB2 hs2 k0 k1 k2 k3
  obtain ⟨k0, k1, k2, k3⟩ := key_cells hB3
  go_wp2_with fail
  refine (rPerm_some s a b c n _ (by omega)).mono ?_
  rintro e w4 ⟨v, rfl, hown4, hb4⟩
  have hown5 := owns_below hown3 hb4
  clear hown3
  have hB4 := after_call hB3 hs3 hb4
  have hs4 := Below.le hB4 (by simp)
  clear hb4 hB3 hs3 k0 k1 k2 k3
  obtain ⟨k0, k1, k2, k3⟩ := key_cells hB4
  obtain ⟨g4, cap4, rfl⟩ := ownsRow_form hown4 (by omega)
  have c1 := own_cells hown5 (perm_len _ _)
  have c2 := own_cells hown4 (perm_len _ _)
  have C1 := Lib.hid c1; have C2 := Lib.hid c2
  clear c1 c2 hown4 hown5 k0 k1 k2 k3
  obtain ⟨L, hL⟩ : ∃ L, L = M.perm (M.pick s a b c) n := ⟨_, rfl⟩
  rw [← hL] at C1 C2
  clear hL
  go_wp2_with fail
  go_loop [8, 9, 52] (fun _ _ i => ∃ k : Nat, k ≤ n ∧ i = .int .i64 k) (fun _ _ i => n - (intOf i).toNat)
  case atStart => exact ⟨0, Nat.zero_le _, rfl⟩
  case round =>
    obtain ⟨k, hk, rfl⟩ := hrel
    by_cases hlt : k < n
    · have d1 := C1.out k hlt
      have d2 := C2.out k hlt
      go_wp2_with fail
      go_round
      case rel => exact ⟨k + 1, by omega, by go_num⟩
      case measure => simp [intOf]; omega
    · go_wp2_with fail
      go_ret
      exact ⟨rfl, ((Below.refl _ _).alloc (Nat.le_refl _) _).trans (hB4.mono (by omega))⟩


theorem RandPerms_row (s a b c n : Int) (w : World) (hs : (Lit.int .u64 s).wf = true) (_ : (Lit.int .i64 a).wf = true) (_ : (Lit.int .i64 b).wf = true) (_ : (Lit.int .i64 c).wf = true) (hn : (Lit.int .i64 n).wf = true) :
    Calls Try.prog 5 #[.agg #[.int .u64 s, .int .i64 a, .int .i64 b, .int .i64 c], .int .i64 n] w fun e w' => e = .returned (.bool true) ∧ Below w.heap.size w w' := by
  obtain ⟨q, rfl, _⟩ := nat_of_u64 hs
  have hb := bounds_i64 hn
  by_cases h : n < 0
  · exact RandPerms_low q a b c n w h
  by_cases h2 : 65536 < n
  · exact RandPerms_high q a b c n w h2
  by_cases h3 : 300 < n
  · exact RandPerms_far q a b c n w h3 (by omega)
  by_cases h4 : n = 0
  · subst h4; exact RandPerms_zero q a b c w
  · obtain ⟨m, rfl⟩ : ∃ m : Nat, n = m := ⟨n.toNat, by omega⟩
    exact RandPerms_some q a b c m w (by omega) (by omega)

end Go.Proofs.Ytcojiienmmmihaa
