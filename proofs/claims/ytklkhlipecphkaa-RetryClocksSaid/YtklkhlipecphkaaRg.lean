/- Retry: the law RetryCaps. -/
import Derived.Test.YtklkhlipecphkaaRf
namespace Go.Proofs.Ytklkhlipecphkaa
open Go.RowKit Go.Joins Go.Maps
set_option maxRecDepth 100000
set_option linter.unusedVariables false

theorem New_no (base most : Int) (w : World) (h : ¬ (1 ≤ base ∧ base ≤ 1024 ∧ base ≤ most ∧ most ≤ 1024)) :
    Calls Try.prog 22 #[.int .i64 base, .int .i64 most] w fun e w' => e = .returned (.tuple #[.pointer none, .int .i64 2]) ∧ w' = w := by
  have HD := Lib.hid (decide_eq_false h)
  go_enter Try.func22, Try.ntmps22
  go_wp2_with fail
  refine (right_any _ _ _).mono ?_
  rintro e w1 ⟨rfl, rfl⟩
  rw [HD.out]
  go_wp2_with fail
  go_ret2
  exact ⟨rfl, rfl⟩

theorem rule_cells {a b : Int} {w wr : World} {T : TypeId} (hb : Below (w.heap.size + 1) (w.alloc (Obj.cells #[.int .i64 a, .int .i64 b] T)) wr) :
    wr.cell? ⟨w.heap.size, 0, none⟩ = some (.int .i64 a) ∧ wr.cell? ⟨w.heap.size, 1, none⟩ = some (.int .i64 b) := by
  have e := fun o => hb.cell (p := ⟨w.heap.size, o, none⟩) (by show w.heap.size < w.heap.size + 1; omega)
  refine ⟨?_, ?_⟩ <;> (rw [e]; simp [go_sem])

theorem next_one {f : Int → Option (Int × Int)} {at_ a t : Int} {ok : Bool} (h : IsNext f at_ ok) (hf : f 5 = some (a, t)) (ho : ∀ z, z ≠ 5 → f z = none) : ok = true ∧ at_ = a := by
  rcases h with ⟨rfl, rfl, h⟩ | ⟨rfl, ⟨z, t', hz, h1⟩, h2⟩
  · rw [h 5 (by decide)] at hf; cases hf
  · refine ⟨rfl, ?_⟩
    by_cases e : z = 5
    · subst e; rw [hf] at h1; cases h1; rfl
    · rw [ho z e] at h1; cases h1
theorem M.wait_mono (base most n : Nat) : M.wait base most n ≤ M.wait base most (n + 1) := by
  unfold M.wait
  have : base * 2 ^ (n - 1) ≤ base * 2 ^ (n + 1 - 1) := Nat.mul_le_mul_left _ (Nat.pow_le_pow_right (by omega) (by omega))
  omega
theorem M.wait_ge {base most n : Nat} (h : base ≤ most) : base ≤ M.wait base most n := by
  unfold M.wait
  have : base * 1 ≤ base * 2 ^ (n - 1) := Nat.mul_le_mul_left _ (Nat.one_le_two_pow)
  omega

set_option maxHeartbeats 1000000 in
theorem RetryCaps_low (a b n : Int) (w : World) (h : n < 1) : Calls Try.prog 7 #[.agg #[.int .i64 a, .int .i64 b], .int .i64 n] w (Yes w) := by
  have d1 := decide_eq_true h
  go_enter Try.func7, Try.ntmps7
  go_wp2_with fail
  refine (awake_any _).mono ?_
  rintro e w1 ⟨rfl, hb1⟩
  have hB1 : Below (w.heap.size + 1) (w.alloc (Obj.cells #[.int .i64 a, .int .i64 b] 54)) w1 := hb1.mono (by simp)
  have hs1 : w.heap.size + 1 ≤ w1.heap.size := by have := hB1.size; simp at this; exact this
  clear hb1
  obtain ⟨k0, k1⟩ := rule_cells hB1
  go_wp2_with fail
  go_ret
  exact ⟨rfl, ((Below.refl _ _).alloc (Nat.le_refl _) _).trans (hB1.mono (by omega))⟩

set_option maxHeartbeats 1000000 in
theorem RetryCaps_high (a b n : Int) (w : World) (h : ¬ n < 1) (h2 : 30 < n) : Calls Try.prog 7 #[.agg #[.int .i64 a, .int .i64 b], .int .i64 n] w (Yes w) := by
  have d1 := decide_eq_false h
  have d2 := decide_eq_true h2
  go_enter Try.func7, Try.ntmps7
  go_wp2_with fail
  refine (awake_any _).mono ?_
  rintro e w1 ⟨rfl, hb1⟩
  have hB1 : Below (w.heap.size + 1) (w.alloc (Obj.cells #[.int .i64 a, .int .i64 b] 54)) w1 := hb1.mono (by simp)
  have hs1 : w.heap.size + 1 ≤ w1.heap.size := by have := hB1.size; simp at this; exact this
  clear hb1
  obtain ⟨k0, k1⟩ := rule_cells hB1
  go_wp2_with fail
  go_ret
  exact ⟨rfl, ((Below.refl _ _).alloc (Nat.le_refl _) _).trans (hB1.mono (by omega))⟩

set_option maxHeartbeats 1000000 in
theorem RetryCaps_not (a b n : Int) (w : World) (h : ¬ n < 1) (h2 : ¬ 30 < n) (h3 : ¬ (1 ≤ a ∧ a ≤ 1024 ∧ a ≤ b ∧ b ≤ 1024)) : Calls Try.prog 7 #[.agg #[.int .i64 a, .int .i64 b], .int .i64 n] w (Yes w) := by
  have d1 := decide_eq_false h
  have d2 := decide_eq_false h2
  go_enter Try.func7, Try.ntmps7
  go_wp2_with fail
  refine (awake_any _).mono ?_
  rintro e w1 ⟨rfl, hb1⟩
  have hB1 : Below (w.heap.size + 1) (w.alloc (Obj.cells #[.int .i64 a, .int .i64 b] 54)) w1 := hb1.mono (by simp)
  have hs1 : w.heap.size + 1 ≤ w1.heap.size := by have := hB1.size; simp at this; exact this
  clear hb1
  obtain ⟨k0, k1⟩ := rule_cells hB1
  go_wp2_with fail
  refine (New_no a b _ h3).mono ?_
  rintro e w2 ⟨rfl, rfl⟩
  go_wp2_with fail
  go_ret
  exact ⟨rfl, ((Below.refl _ _).alloc (Nat.le_refl _) _).trans (hB1.mono (by omega))⟩

set_option maxHeartbeats 8000000 in
theorem RetryCaps_yes (a b n : Nat) (w : World) (h0 : 1 ≤ a) (h1 : a ≤ b) (h2 : b ≤ 1024) (h3 : 1 ≤ n) (h4 : n ≤ 30) : Calls Try.prog 7 #[.agg #[.int .i64 (a : Int), .int .i64 (b : Int)], .int .i64 (n : Int)] w (Yes w) := by
  have d1 : decide ((n : Int) < 1) = false := decide_eq_false (by omega)
  have d2 : decide ((30 : Int) < (n : Int)) = false := decide_eq_false (by omega)
  go_enter Try.func7, Try.ntmps7
  go_wp2_with fail
  refine (awake_any _).mono ?_
  rintro e w1 ⟨rfl, hb1⟩
  have hB1 : Below (w.heap.size + 1) (w.alloc (Obj.cells #[.int .i64 (a : Int), .int .i64 (b : Int)] 54)) w1 := hb1.mono (by simp)
  have hs1 : w.heap.size + 1 ≤ w1.heap.size := by have := hB1.size; simp at this; exact this
  clear hb1
  obtain ⟨k0, k1⟩ := rule_cells hB1
  go_wp2_with fail
  refine (New_yes a b _ h0 h1 h2).mono ?_
  rintro e w2 ⟨B, Mb, rfl, hk2, hb2⟩
  have HK2 := Lib.hid (hk2.mono hs1)
  have HB2 := Lib.hid (hB1.trans (hb2.mono hs1))
  clear hk2 hb2 k0 k1
  go_wp2_with fail
  refine (Start_yes HK2.out (by omega) (by unfold maxLen; omega) (x := 5) (by decide)).mono ?_
  rintro e w3 ⟨rfl, hk3, hb3⟩
  have HB3 := Lib.hid (HB2.out.trans hb3)
  have HK3 := Lib.hid hk3
  clear hk3 hb3
  go_wp2_with fail
  go_loopw [7, 8, 9, 10, 11, 12] (fun l k _ _ _ _ wr => ∃ (j T lo nn : Nat) (a5 : Int) (f : Int → Option (Int × Int)), j ≤ n ∧ k = .int .i64 ((j + 1 : Nat) : Int) ∧ l = .int .i64 (lo : Int) ∧ T ≤ 1024 * j ∧ f 5 = some (a5, (j : Int)) ∧ a5 ≤ (T : Int) ∧ (∀ z, z ≠ 5 → f z = none) ∧
      lo ≤ M.wait a b (j + 1) ∧ nn ≤ 1 + j ∧ Clk (w.heap.size + 1) B Mb (a : Int) (b : Int) (T : Int) f nn wr ∧ Below (w.heap.size + 1) (w.alloc (Obj.cells #[.int .i64 (a : Int), .int .i64 (b : Int)] 54)) wr) (fun _ k _ _ _ _ _ => n + 1 - (intOf k).toNat)
  case atStart => exact ⟨0, 0, 0, 1, 0, _, Nat.zero_le _, rfl, rfl, by omega, upd_same _ _ _, by omega, fun z hz => upd_other _ _ hz, Nat.zero_le _, by omega, HK3.out, HB3.out⟩
  case round =>
    obtain ⟨j, T, lo, nn, a5, f, hj, rfl, rfl, hT, hf5, ha5, hfo, hlo, hnn, hclk, hbl⟩ := hrel
    have HF5 := Lib.hid hf5
    have HFO := Lib.hid hfo
    have HK := Lib.hid hclk
    have HBL := Lib.hid hbl
    clear hf5 hfo hclk hbl
    obtain ⟨m, hm⟩ : ∃ m, m = j + 1 := ⟨_, rfl⟩
    rw [← hm] at hlo ⊢
    by_cases hlt : m ≤ n
    · have e1 : decide ((m : Int) ≤ (n : Int)) = true := decide_eq_true (by omega)
      have hwle := M.wait_le a b m
      have hwge := M.wait_ge (n := m) h1
      have hwmono := M.wait_mono a b m
      obtain ⟨v, hv⟩ : ∃ v, v = M.wait a b m := ⟨_, rfl⟩
      rw [← hv] at hwle hwge hlo hwmono
      obtain ⟨v2, hv2⟩ : ∃ v2, v2 = M.wait a b (m + 1) := ⟨_, rfl⟩
      rw [← hv2] at hwmono
      have HV := Lib.hid hv
      have HV2 := Lib.hid hv2
      have HM := Lib.hid hm
      have hm30 : m ≤ 30 := by omega
      have hT2 : T ≤ 1024 * 30 := by omega
      clear hv hv2 hm
      go_wp2_with fail
      refine (Due_yes HK.out (by omega) (x := 5) (by decide)).mono ?_
      rintro e w4 ⟨rfl, hb4⟩
      have hk4 := HK.out.below hb4
      have HB4 := Lib.hid (HBL.out.trans (hb4.mono (by have := HBL.out.size; simp at this; omega)))
      rw [show dueB f 5 (T : Int) = true from by unfold dueB; rw [HF5.out]; simpa using ha5]
      have HK4 := Lib.hid hk4
      clear hk4 hb4
      go_wp2_with fail
      refine (Tried_yes (t := j) HK4.out h0 h1 h2 (by unfold maxLen; omega) (x := 5) (by decide) HF5.out (by omega) (by omega) (by omega)).mono ?_
      rintro e w5 ⟨rfl, hk5, hb5⟩
      rw [← HM.out, ← HV.out] at hk5
      have HB5 := Lib.hid (HB4.out.trans hb5)
      have hg5 := upd_same f 5 (some ((T : Int) + (v : Int), ((m : Nat) : Int)))
      have hgo : ∀ z, z ≠ 5 → upd f 5 (some ((T : Int) + (v : Int), ((m : Nat) : Int))) z = none := fun z hz => (upd_other f _ hz).trans (HFO.out z hz)
      obtain ⟨g, hg⟩ : ∃ g, g = upd f 5 (some ((T : Int) + (v : Int), ((m : Nat) : Int))) := ⟨_, rfl⟩
      rw [← hg] at hk5 hg5 hgo
      have HG5 := Lib.hid hg5
      have HGO := Lib.hid hgo
      have HK5 := Lib.hid hk5
      obtain ⟨k0, k1⟩ := rule_cells HB5.out
      clear hk5 hb5 hg hg5 hgo
      go_wp2_with fail
      refine (Wait_yes a b m _ h0 h1 h2 (by have := HM.out; omega) (by omega)).mono ?_
      rintro e w6 ⟨rfl, rfl⟩
      rw [← HV.out]
      go_wp2_with fail
      refine (Next_yes HK5.out (by omega)).mono ?_
      rintro e w7 ⟨at_, ok, rfl, hnx, hb7⟩
      obtain ⟨rfl, rfl⟩ := next_one hnx HG5.out HGO.out
      have HK7 := Lib.hid (HK5.out.below hb7)
      have HB7 := Lib.hid (HB5.out.trans (hb7.mono (by have := HB5.out.size; simp at this; omega)))
      clear hnx hb7 k0 k1
      obtain ⟨k0, k1⟩ := rule_cells HB7.out
      have q1 : decide ((v : Int) < (lo : Int)) = false := decide_eq_false (by omega)
      have q2 : decide ((v : Int) < (a : Int)) = false := decide_eq_false (by omega)
      have q3 : decide ((b : Int) < (v : Int)) = false := decide_eq_false (by omega)
      go_wp2_with fail
      refine (Now_yes HK7.out (by omega)).mono ?_
      rintro e w8 ⟨rfl, rfl⟩
      go_wp2_with fail
      refine (Tries_yes HK7.out (by omega) (x := 5) (by decide)).mono ?_
      rintro e w9 ⟨rfl, rfl⟩
      rw [HG5.out]
      go_wp2_with fail
      refine (Tick_yes HK7.out (by omega) (k := (v : Int) - 1) (by omega) (by omega) (by omega) (by omega)).mono ?_
      rintro e wa ⟨rfl, hka, hba⟩
      have HKA := Lib.hid hka
      have HBA := Lib.hid (HB7.out.trans hba)
      clear hka hba k0 k1
      by_cases hv1 : 1 < v
      · have g1 : decide ((1 : Int) < (v : Int)) = true := decide_eq_true (by omega)
        go_wp2_with fail
        refine (Due_yes HKA.out (by omega) (x := 5) (by decide)).mono ?_
        rintro e wc ⟨rfl, hbc⟩
        rw [show dueB g 5 ((T : Int) + ((v : Int) - 1)) = false from by unfold dueB; rw [HG5.out]; simp; omega]
        have HKC := Lib.hid (HKA.out.below hbc)
        have HBC := Lib.hid (HBA.out.trans (hbc.mono (by have := HBA.out.size; simp at this; omega)))
        clear hbc
        go_wp2_with fail
        refine (Tick_yes HKC.out (by omega) (k := 1) (by omega) (by omega) (by omega) (by omega)).mono ?_
        rintro e wd ⟨rfl, hkd, hbd⟩
        rw [show (T : Int) + ((v : Int) - 1) + 1 = ((T + v : Nat) : Int) by omega] at hkd
        have HKD := Lib.hid hkd
        have HBD := Lib.hid (HBC.out.trans hbd)
        clear hkd hbd
        go_wp2_with fail
        refine (Due_yes HKD.out (by omega) (x := 5) (by decide)).mono ?_
        rintro e we ⟨rfl, hbe⟩
        rw [show dueB g 5 ((T + v : Nat) : Int) = true from by unfold dueB; rw [HG5.out]; simp]
        have HKE := Lib.hid (HKD.out.below hbe)
        have HBE := Lib.hid (HBD.out.trans (hbe.mono (by have := HBD.out.size; simp at this; omega)))
        clear hbe
        go_wp2_with fail
        go_roundw
        case rel => exact ⟨m, T + v, v, nn + 1, (T : Int) + (v : Int), g, hlt, by go_num, rfl, by have := HM.out; omega, HG5.out, by omega, HGO.out, by rw [← HV2.out]; exact hwmono, by have := HM.out; omega, HKE.out, HBE.out⟩
        case measure => simp [intOf]; omega
      · have g1 : decide ((1 : Int) < (v : Int)) = false := decide_eq_false (by omega)
        go_wp2_with fail
        refine (Tick_yes HKA.out (by omega) (k := 1) (by omega) (by omega) (by omega) (by omega)).mono ?_
        rintro e wd ⟨rfl, hkd, hbd⟩
        rw [show (T : Int) + ((v : Int) - 1) + 1 = ((T + v : Nat) : Int) by omega] at hkd
        have HKD := Lib.hid hkd
        have HBD := Lib.hid (HBA.out.trans hbd)
        clear hkd hbd
        go_wp2_with fail
        refine (Due_yes HKD.out (by omega) (x := 5) (by decide)).mono ?_
        rintro e we ⟨rfl, hbe⟩
        rw [show dueB g 5 ((T + v : Nat) : Int) = true from by unfold dueB; rw [HG5.out]; simp]
        have HKE := Lib.hid (HKD.out.below hbe)
        have HBE := Lib.hid (HBD.out.trans (hbe.mono (by have := HBD.out.size; simp at this; omega)))
        clear hbe
        go_wp2_with fail
        go_roundw
        case rel => exact ⟨m, T + v, v, nn + 1, (T : Int) + (v : Int), g, hlt, by go_num, rfl, by have := HM.out; omega, HG5.out, by omega, HGO.out, by rw [← HV2.out]; exact hwmono, by have := HM.out; omega, HKE.out, HBE.out⟩
        case measure => simp [intOf]; omega
    · have e1 : decide ((m : Int) ≤ (n : Int)) = false := decide_eq_false (by omega)
      clear hm
      go_wp2_with fail
      go_ret
      exact ⟨rfl, ((Below.refl _ _).alloc (Nat.le_refl _) _).trans (HBL.out.mono (by omega))⟩

theorem RetryCaps_row (a b n : Int) (w : World) (_ : (Lit.int .i64 a).wf = true) (_ : (Lit.int .i64 b).wf = true) (_ : (Lit.int .i64 n).wf = true) :
    Calls Try.prog 7 #[.agg #[.int .i64 a, .int .i64 b], .int .i64 n] w fun e w' => e = .returned (.bool true) ∧ Below w.heap.size w w' := by
  by_cases h1 : n < 1
  · exact RetryCaps_low a b n w h1
  by_cases h2 : 30 < n
  · exact RetryCaps_high a b n w h1 h2
  by_cases h3 : 1 ≤ a ∧ a ≤ 1024 ∧ a ≤ b ∧ b ≤ 1024
  · obtain ⟨a', rfl⟩ : ∃ m : Nat, a = m := ⟨a.toNat, by omega⟩
    obtain ⟨b', rfl⟩ : ∃ m : Nat, b = m := ⟨b.toNat, by omega⟩
    obtain ⟨n', rfl⟩ : ∃ m : Nat, n = m := ⟨n.toNat, by omega⟩
    exact RetryCaps_yes a' b' n' w (by omega) (by omega) (by omega) (by omega) (by omega)
  · exact RetryCaps_not a b n w h1 h2 h3
end Go.Proofs.Ytklkhlipecphkaa
