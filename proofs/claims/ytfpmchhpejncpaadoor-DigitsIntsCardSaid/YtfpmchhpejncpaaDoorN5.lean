/- Digits: whole numbers, in plain words. -/
import Derived.Test.YtfpmchhpejncpaaDoorN3
import Derived.Lib.ParseIntBCases
namespace Go.Proofs.YtfpmchhpejncpaaDoor
set_option linter.unusedVariables false
set_option maxRecDepth 100000

theorem uintM_dig : ∀ (l : List UInt8) (acc : Nat), (∀ b ∈ l, isDig b = true) → acc ≤ 18446744073709551615 →
    Lib.parseUintM 18446744073709551615 acc l = if acc * 10 ^ l.length + val (digs l) ≤ 18446744073709551615 then .ok (acc * 10 ^ l.length + val (digs l)) else .range
  | [], acc, _, ha => by
    simp only [Lib.parseUintM, List.length_nil, Nat.pow_zero, Nat.mul_one, show val (digs []) = 0 from rfl, Nat.add_zero]
    rw [if_pos ha]
  | c :: r, acc, hl, ha => by
    have hc := isDig_iff.1 (hl c (List.mem_cons_self ..))
    have hr : ∀ b ∈ r, isDig b = true := fun b hb => hl b (List.mem_cons_of_mem _ hb)
    simp only [Lib.parseUintM]
    rw [if_pos hc, digs_cons, val_cons, digs_len, List.length_cons, Nat.pow_succ]
    obtain ⟨d, hd⟩ : ∃ d, d = c.toNat - 48 := ⟨_, rfl⟩
    have ih := uintM_dig r (acc * 10 + d) hr
    rw [← hd]
    obtain ⟨p, hp⟩ : ∃ p, p = 10 ^ r.length := ⟨_, rfl⟩
    have hp1 : 0 < p := by rw [hp]; exact Nat.pow_pos (by omega)
    rw [← hp] at ih ⊢
    have e : acc * (p * 10) + (d * p + val (digs r)) = (acc * 10 + d) * p + val (digs r) := by
      rw [Nat.mul_comm p 10, ← Nat.mul_assoc, Nat.add_mul]; omega
    rw [e]
    have hge : acc * 10 + d ≤ (acc * 10 + d) * p := Nat.le_mul_of_pos_right _ hp1
    by_cases h1 : 1844674407370955162 ≤ acc
    · rw [if_pos h1, if_neg (by omega)]
    · rw [if_neg h1]
      by_cases h2 : 18446744073709551615 < acc * 10 + d
      · rw [if_pos h2, if_neg (by omega)]
      · rw [if_neg h2]
        exact ih (by omega)
theorem uintB_dig {l : List UInt8} (h : ∀ b ∈ l, isDig b = true) (hn : l ≠ []) : Lib.parseUintB 64 l = if val (digs l) ≤ 18446744073709551615 then .ok (val (digs l)) else .range := by
  unfold Lib.parseUintB
  rw [if_neg hn, show (2 : Nat) ^ 64 - 1 = 18446744073709551615 by decide, uintM_dig l 0 h (by omega), Nat.zero_mul, Nat.zero_add]
/-- A whole number's value. -/
def wval (below : Bool) (A : List UInt8) : Int := if below then -(val (digs A) : Int) else val (digs A)
/-- Is it held in 64 bits? -/
def fits (T : Int) : Prop := -9223372036854775808 ≤ T ∧ T ≤ 9223372036854775807
instance (T : Int) : Decidable (fits T) := inferInstanceAs (Decidable (_ ∧ _))
theorem parseInt_join (below : Bool) {A : List UInt8} (h : ∀ b ∈ A, isDig b = true) (hn : A ≠ []) : Lib.parseIntB 64 (joinL below A []) = if fits (wval below A) then .ok (wval below A) else .range := by
  have e : joinL below A [] = (if below = true then [45] else []) ++ A := by unfold joinL joinR; simp
  rw [e]
  have hu := uintB_dig h hn
  unfold wval fits
  obtain ⟨u, hu2⟩ : ∃ u, u = val (digs A) := ⟨_, rfl⟩
  rw [← hu2] at hu ⊢
  cases below with
  | true =>
    simp only [if_true, List.cons_append, List.nil_append]
    rw [Lib.parseIntB_minus, hu, show (2 : Nat) ^ (64 - 1) = 9223372036854775808 by decide]
    by_cases h1 : u ≤ 18446744073709551615
    · rw [if_pos h1]
      unfold Lib.signedC
      by_cases h2 : 9223372036854775808 < u
      · simp only [if_pos h2]; rw [if_neg (by omega)]
      · simp only [if_neg h2]; rw [if_pos (by omega)]
    · rw [if_neg h1, if_neg (by omega)]; rfl
  | false =>
    cases A with
    | nil => exact absurd rfl hn
    | cons c r =>
      have hc := isDig_iff.1 (h c (List.mem_cons_self ..))
      simp only [Bool.false_eq_true, if_false, List.nil_append]
      rw [Lib.parseIntB_plain 64 c r (by omega) (by omega), hu, show (2 : Nat) ^ (64 - 1) = 9223372036854775808 by decide]
      by_cases h1 : u ≤ 18446744073709551615
      · rw [if_pos h1]
        unfold Lib.signlessC
        by_cases h2 : 9223372036854775808 ≤ u
        · simp only [if_pos h2]; rw [if_neg (by omega)]
        · simp only [if_neg h2]; rw [if_pos (by omega)]
      · rw [if_neg h1, if_neg (by omega)]; rfl
/-- What Int answers. -/
def intT (l : List UInt8) : Value := match partsL l with
  | none => .tuple #[.int .i64 0, .int .i64 30]
  | some (below, A, B) => if B ≠ [] ∨ (below = true ∧ A = [48]) then .tuple #[.int .i64 0, .int .i64 30] else
      if fits (wval below A) then .tuple #[.int .i64 (wval below A), .int .i64 0] else .tuple #[.int .i64 0, .int .i64 3]
theorem intT_none {l : List UInt8} (h : partsL l = none) : intT l = .tuple #[.int .i64 0, .int .i64 30] := by unfold intT; rw [h]
theorem intT_bad {l A B : List UInt8} {below : Bool} (h : partsL l = some (below, A, B)) (h2 : B ≠ [] ∨ (below = true ∧ A = [48])) : intT l = .tuple #[.int .i64 0, .int .i64 30] := by unfold intT; rw [h]; exact if_pos h2
theorem intT_fit {l A : List UInt8} {below : Bool} (h : partsL l = some (below, A, [])) (h2 : ¬ (below = true ∧ A = [48])) (h3 : fits (wval below A)) : intT l = .tuple #[.int .i64 (wval below A), .int .i64 0] := by
  unfold intT; rw [h]; simp only; rw [if_neg (by intro h4; rcases h4 with h4 | h4; exact h4 rfl; exact h2 h4), if_pos h3]
theorem intT_big {l A : List UInt8} {below : Bool} (h : partsL l = some (below, A, [])) (h2 : ¬ (below = true ∧ A = [48])) (h3 : ¬ fits (wval below A)) : intT l = .tuple #[.int .i64 0, .int .i64 3] := by
  unfold intT; rw [h]; simp only; rw [if_neg (by intro h4; rcases h4 with h4 | h4; exact h4 rfl; exact h2 h4), if_neg h3]
theorem itoa_join (n : Int) : Lib.itoa n = joinL (decide (n < 0)) (Lib.decDigits n.natAbs) [] := by
  unfold Lib.itoa joinL joinR
  by_cases h : n < 0
  · rw [if_pos h, decide_eq_true h]; simp
  · rw [if_neg h, decide_eq_false h]
    have : n.toNat = n.natAbs := by omega
    rw [this]; simp
theorem int_whole (n : Int) (h : fits n) : intT (Lib.itoa n) = .tuple #[.int .i64 n, .int .i64 0] := by
  have hj := partsL_join (decide (n < 0)) (dec_ok n.natAbs) (.inl (rfl : ([] : List UInt8) = []))
  rw [← itoa_join] at hj
  have hv : wval (decide (n < 0)) (Lib.decDigits n.natAbs) = n := by
    unfold wval
    rw [(dec_all _).2]
    by_cases h : n < 0
    · rw [decide_eq_true h]; simp only [if_true]; omega
    · rw [decide_eq_false h]; simp only [Bool.false_eq_true, if_false]; omega
  rw [intT_fit hj ?_ (by rw [hv]; exact h), hv]
  rintro ⟨h1, h2⟩
  have := (dec_all n.natAbs).2
  rw [h2] at this
  have h3 := of_decide_eq_true h1
  simp [digs, val] at this
  omega
end Go.Proofs.YtfpmchhpejncpaaDoor
