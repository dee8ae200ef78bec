/- Walks: the law RandOnce. -/
import Derived.Test.YtcojiienmmmihaaV
import Derived.Test.YtcojiienmmmihaaK
namespace Go.Proofs.Ytcojiienmmmihaa
open Go.RowKit Go.Joins
set_option maxRecDepth 100000
set_option linter.unusedVariables false

/-- Where the numbers below n go. -/
noncomputable def M.plcs (s : Nat) (a b c : Int) (n : Nat) : List Int := (List.range n).map fun i => ((M.plc s a b c n i : Nat) : Int)
theorem plcs_nth (s : Nat) (a b c : Int) (n k : Nat) (h : k < n) : nth (M.plcs s a b c n) k = ((M.plc s a b c n k : Nat) : Int) := by simp [nth, M.plcs, List.getD, h]
theorem plcs_inj (s : Nat) (a b c : Int) (n k : Nat) (h1 : n ≤ 65536) (hk : k < n) : ∀ j, j < k → nth (M.plcs s a b c n) j ≠ nth (M.plcs s a b c n) k := fun j hj e => by
  rw [plcs_nth s a b c n j (by omega), plcs_nth s a b c n k hk] at e
  have e' : M.plc s a b c n j = M.plc s a b c n k := by omega
  have h2 := M.bck_plc s a b c h1 (show j < n by omega)
  rw [e', M.bck_plc s a b c h1 hk] at h2
  omega

set_option maxHeartbeats 4000000 in
theorem RandOnce_low (s : Nat) (a b c n : Int) (w : World) (h : n < 1) : Calls Try.prog 9 #[.agg #[.int .u64 (s : Int), .int .i64 a, .int .i64 b, .int .i64 c], .int .i64 n] w (Yes w) := by
  have hd : decide (n < 1) = true := decide_eq_true h
  go_enter Try.func9, Try.ntmps9
  go_wp2_with fail
  refine (awake_any _).mono ?_
  rintro e w1 ⟨rfl, hb1⟩
  have hB1 : Below (w.heap.size + 1) (w.alloc (Obj.cells #[.int .u64 (s : Int), .int .i64 a, .int .i64 b, .int .i64 c] 24)) w1 := hb1.mono (by simp)
  have hs1 := Below.le hB1 (by simp)
  clear hb1
  obtain ⟨k0, k1, k2, k3⟩ := key_cells hB1
  go_wp2_with fail
  go_ret
  exact ⟨rfl, ((Below.refl _ _).alloc (Nat.le_refl _) _).trans (hB1.mono (by omega))⟩

set_option maxHeartbeats 4000000 in
theorem RandOnce_high (s : Nat) (a b c n : Int) (w : World) (h : 200 < n) : Calls Try.prog 9 #[.agg #[.int .u64 (s : Int), .int .i64 a, .int .i64 b, .int .i64 c], .int .i64 n] w (Yes w) := by
  have hd : decide (n < 1) = false := decide_eq_false (by omega)
  have hd2 : decide (200 < n) = true := decide_eq_true h
  go_enter Try.func9, Try.ntmps9
  go_wp2_with fail
  refine (awake_any _).mono ?_
  rintro e w1 ⟨rfl, hb1⟩
  have hB1 : Below (w.heap.size + 1) (w.alloc (Obj.cells #[.int .u64 (s : Int), .int .i64 a, .int .i64 b, .int .i64 c] 24)) w1 := hb1.mono (by simp)
  have hs1 := Below.le hB1 (by simp)
  clear hb1
  obtain ⟨k0, k1, k2, k3⟩ := key_cells hB1
  go_wp2_with fail
  go_ret
  exact ⟨rfl, ((Below.refl _ _).alloc (Nat.le_refl _) _).trans (hB1.mono (by omega))⟩

set_option maxHeartbeats 4000000 in
theorem RandOnce_some (s : Nat) (a b c : Int) (n : Nat) (w : World) (h0 : 1 ≤ n) (h1 : n ≤ 200) : Calls Try.prog 9 #[.agg #[.int .u64 (s : Int), .int .i64 a, .int .i64 b, .int .i64 c], .int .i64 (n : Int)] w (Yes w) := by
  obtain ⟨i0, hi, hz0, hz1, hz2⟩ := info_parts Try.info4
  have HZ0 := Lib.hid hz0; have HZ1 := Lib.hid hz1; have HZ2 := Lib.hid hz2; have HI := Lib.hid hi
  clear hz0 hz1 hz2 hi
  have hd : decide ((n : Int) < 1) = false := decide_eq_false (by omega)
  have hd2 : decide ((200 : Int) < (n : Int)) = false := decide_eq_false (by omega)
  go_enter Try.func9, Try.ntmps9
  go_wp2_with fail
  refine (awake_any _).mono ?_
  rintro e w1 ⟨rfl, hb1⟩
  have hB1 : Below (w.heap.size + 1) (w.alloc (Obj.cells #[.int .u64 (s : Int), .int .i64 a, .int .i64 b, .int .i64 c] 24)) w1 := hb1.mono (by simp)
  have hs1 := Below.le hB1 (by simp)
  clear hb1
  obtain ⟨k0, k1, k2, k3⟩ := key_cells hB1
  go_wp2_with (at_make; refine wpList_make_full _ rfl _ _ 39 rfl w1.heap.size 4 i0 (.bool false) 1 Try.underlying39 HI.out HZ0.out HZ1.out .i64 .i64 _ _ n rfl rfl rfl rfl (by rw [HZ2.out]; omega) (by unfold maxLen; omega) (Nat.le_refl _) ?_; intro w3 hown3 hgrow3)
  have hM3 : Below w1.heap.size w1 w3 := (Below.refl _ _).grown hgrow3 (Nat.le_refl _) (by intro k h; cases h)
  clear hgrow3
  rw [toList_madeCells_one', ← marks_zero (M.plcs s a b c n) n] at hown3
  obtain ⟨g3, hg3⟩ : ∃ g3, g3 = w1.heap.size := ⟨_, rfl⟩
  rw [← hg3] at hown3 ⊢
  have HG3 := Lib.hid hg3
  clear hg3
  go_loopw [6, 7, 8, 9, 10, 22] (fun _ _ _ _ _ i wr => ∃ k : Nat, k ≤ n ∧ i = .int .i64 k ∧ wr.ownsRow g3 4 1 (.slice (some ⟨g3, 0, none⟩) n n) n ((marks (M.plcs s a b c n) k n).map Value.bool) ∧ Below w1.heap.size w1 wr) (fun _ _ _ _ _ i _ => n - (intOf i).toNat)
  case atStart => exact ⟨0, Nat.zero_le _, rfl, hown3, hM3⟩
  case round =>
    obtain ⟨k, hk, rfl, hown, hM⟩ := hrel
    clear hown3 hM3 k0 k1 k2 k3
    by_cases hlt : k < n
    · have hXn0 := M.plc_lt s a b c (by omega : n ≤ 65536) hlt
      have hback0 := M.bck_plc s a b c (by omega : n ≤ 65536) hlt
      have hX0 := plcs_nth s a b c n k hlt
      obtain ⟨X, hXe⟩ : ∃ X, X = M.plc s a b c n k := ⟨_, rfl⟩
      rw [← hXe] at hXn0 hback0 hX0
      have HX := Lib.hid hXe
      have HBACK := Lib.hid hback0
      have HNTH := Lib.hid hX0
      clear hXe hback0 hX0
      have hXn : X < n := hXn0
      clear hXn0
      obtain ⟨k0, k1, k2, k3⟩ := key_cells (after_call hB1 hs1 hM)
      go_wp2_with fail
      refine (Place_any s a b c n k _ (by omega) hlt).mono ?_
      rintro e w4 ⟨rfl, hb4⟩
      rw [← HX.out]
      have hown4 := owns_below hown hb4
      have hM4 : Below w1.heap.size w1 w4 := hM.trans (hb4.mono (by have := hM.size; omega))
      clear hown hM hb4 k0 k1 k2 k3
      have dX := hown4.cellAt X (by omega)
      rw [map_bool_get (marks_new (M.plcs s a b c n) k n X hXn HNTH.out (plcs_inj s a b c n k (by omega) hlt))] at dX
      have fX := hown4.frozenAt X
      have hnew := Lib.hid (marks_step (M.plcs s a b c n) k n X hXn HNTH.out)
      have h1 := (hown4.stored X (.bool true)).1
      rw [← List.map_set, hnew.out] at h1
      have h2 := hM4.setCell (p := ⟨g3, X, none⟩) (by rw [HG3.out]; exact Nat.le_refl _) (.bool true)
      obtain ⟨k0, k1, k2, k3⟩ := key_cells (after_call hB1 hs1 h2)
      have H1 := Lib.hid h1
      have H2 := Lib.hid h2
      clear h1 h2 hown4 hM4
      have dm1 : decide ((X : Int) < 0) = false := decide_eq_false (by omega)
      have dm2 : decide ((n : Int) ≤ (X : Int)) = false := decide_eq_false (by omega)
      have dm3 : decide (n ≤ X) = false := decide_eq_false (by omega)
      go_wp2_with fail
      refine (Back_any s a b c n X _ (by omega) hXn).mono ?_
      rintro e w5 ⟨rfl, hb5⟩
      rw [HBACK.out]
      have hb5' := Lib.hid hb5
      clear hb5 k0 k1 k2 k3
      go_wp2_with fail
      go_roundw
      case rel => exact ⟨k + 1, by omega, by go_num, owns_below H1.out hb5'.out, H2.out.trans (hb5'.out.mono (by have := H2.out.size; omega))⟩
      case measure => simp [intOf]; omega
    · go_wp2_with fail
      go_ret
      exact ⟨rfl, ((Below.refl _ _).alloc (Nat.le_refl _) _).trans ((after_call hB1 hs1 hM).mono (by omega))⟩


theorem RandOnce_row (s a b c n : Int) (w : World) (hs : (Lit.int .u64 s).wf = true) (_ : (Lit.int .i64 a).wf = true) (_ : (Lit.int .i64 b).wf = true) (_ : (Lit.int .i64 c).wf = true) (hn : (Lit.int .i64 n).wf = true) :
    Calls Try.prog 9 #[.agg #[.int .u64 s, .int .i64 a, .int .i64 b, .int .i64 c], .int .i64 n] w fun e w' => e = .returned (.bool true) ∧ Below w.heap.size w w' := by
  obtain ⟨q, rfl, _⟩ := nat_of_u64 hs
  have hb := bounds_i64 hn
  by_cases h : n < 1
  · exact RandOnce_low q a b c n w h
  by_cases h2 : 200 < n
  · exact RandOnce_high q a b c n w h2
  obtain ⟨m, rfl⟩ : ∃ m : Nat, n = m := ⟨n.toNat, by omega⟩
  exact RandOnce_some q a b c m w (by omega) (by omega)

end Go.Proofs.Ytcojiienmmmihaa
