/- Digits: plain numbers: lists of digits, doubled. -/
import Derived.Test.YtfpmchhpejncpaaDoorE
namespace Go.Proofs.YtfpmchhpejncpaaDoor
set_option linter.unusedVariables false

/-- A list of digits, the highest first, as a number. -/
def val : List Nat → Nat
  | [] => 0
  | d :: l => d * 10 ^ l.length + val l
def Dg (l : List Nat) : Prop := ∀ d ∈ l, d < 10
theorem Dg.tail {d : Nat} {l : List Nat} (h : Dg (d :: l)) : Dg l := fun x hx => h x (List.mem_cons_of_mem _ hx)
theorem Dg.head {d : Nat} {l : List Nat} (h : Dg (d :: l)) : d < 10 := h d (List.mem_cons_self ..)
theorem val_lt : ∀ {l : List Nat}, Dg l → val l < 10 ^ l.length
  | [], _ => by simp [val]
  | d :: l, h => by
    have := val_lt h.tail
    have hd := h.head
    have e : 10 ^ (d :: l).length = 10 * 10 ^ l.length := by rw [List.length_cons, Nat.pow_succ, Nat.mul_comm]
    have h1 : d * 10 ^ l.length ≤ 9 * 10 ^ l.length := Nat.mul_le_mul_right _ (by omega)
    rw [e]
    unfold val
    omega
/-- A list of digits doubled; what leaves it ahead. -/
def dbl : List Nat → List Nat × Nat
  | [] => ([], 0)
  | d :: l => ((2 * d + (dbl l).2) % 10 :: (dbl l).1, (2 * d + (dbl l).2) / 10)
theorem dbl_len : ∀ l, (dbl l).1.length = l.length
  | [] => rfl
  | d :: l => by simp [dbl, dbl_len l]
theorem dbl_dg : ∀ l, Dg (dbl l).1
  | [] => fun d h => by simp [dbl] at h
  | d :: l => fun x hx => by
    simp [dbl] at hx
    rcases hx with rfl | hx
    · exact Nat.mod_lt _ (by omega)
    · exact dbl_dg l x hx
theorem dbl_carry : ∀ {l : List Nat}, Dg l → (dbl l).2 ≤ 1
  | [], _ => by simp [dbl]
  | d :: l, h => by
    have := dbl_carry h.tail
    have := h.head
    simp only [dbl]
    omega
theorem dbl_val : ∀ l, val (dbl l).1 + (dbl l).2 * 10 ^ l.length = 2 * val l
  | [] => rfl
  | d :: l => by
    have ih := dbl_val l
    simp only [dbl, val, dbl_len, List.length_cons, Nat.pow_succ]
    obtain ⟨c, hc⟩ : ∃ c, c = (dbl l).2 := ⟨_, rfl⟩
    rw [← hc] at ih ⊢
    obtain ⟨p, hp⟩ : ∃ p, p = 10 ^ l.length := ⟨_, rfl⟩
    rw [← hp] at ih ⊢
    have h1 := Nat.div_add_mod (2 * d + c) 10
    have h2 : (2 * d + c) % 10 * p + (2 * d + c) / 10 * (p * 10) = (2 * d + c) * p := by
      have : (2 * d + c) / 10 * (p * 10) = (10 * ((2 * d + c) / 10)) * p := by
        rw [Nat.mul_comm p 10, ← Nat.mul_assoc, Nat.mul_comm ((2 * d + c) / 10) 10]
      rw [this, ← Nat.add_mul]
      congr 1
      omega
    have h3 : (2 * d + c) * p = 2 * (d * p) + c * p := by rw [Nat.add_mul, Nat.mul_assoc]
    omega
/-- k doublings: the whole part that left, and what is left. -/
def its : Nat → List Nat → Nat × List Nat
  | 0, l => (0, l)
  | k + 1, l => (2 * (its k l).1 + (dbl (its k l).2).2, (dbl (its k l).2).1)
theorem its_len : ∀ k l, (its k l).2.length = l.length
  | 0, l => rfl
  | k + 1, l => by simp [its, dbl_len, its_len k l]
theorem its_dg : ∀ k {l : List Nat}, Dg l → Dg (its k l).2
  | 0, l, h => h
  | k + 1, l, h => dbl_dg _
theorem its_val : ∀ k l, (its k l).1 * 10 ^ l.length + val (its k l).2 = 2 ^ k * val l
  | 0, l => by simp [its]
  | k + 1, l => by
    have ih := its_val k l
    have hd := dbl_val (its k l).2
    rw [its_len] at hd
    simp only [its]
    rw [Nat.pow_succ, Nat.add_mul, Nat.mul_comm (2 ^ k) 2, Nat.mul_assoc, Nat.mul_assoc, ← ih]
    omega
theorem its_div {k : Nat} {l : List Nat} (h : Dg l) : (its k l).1 = 2 ^ k * val l / 10 ^ l.length ∧ val (its k l).2 = 2 ^ k * val l % 10 ^ l.length := by
  have h1 := its_val k l
  have h2 : val (its k l).2 < 10 ^ l.length := by have := val_lt (its_dg k h); rwa [its_len] at this
  rw [← h1]
  refine ⟨?_, ?_⟩
  · rw [Nat.add_comm, Nat.add_mul_div_right _ _ (Nat.pow_pos (by omega) : 0 < 10 ^ l.length), Nat.div_eq_of_lt h2, Nat.zero_add]
  · rw [Nat.add_comm, Nat.add_mul_mod_self_right, Nat.mod_eq_of_lt h2]
theorem its_lt {k : Nat} {l : List Nat} (h : Dg l) : (its k l).1 < 2 ^ k := by
  rw [(its_div h).1]
  have := val_lt h
  exact Nat.div_lt_of_lt_mul (by rw [Nat.mul_comm]; exact Nat.mul_lt_mul_of_pos_right this (Nat.pow_pos (by omega)))
theorem val_zero : ∀ {l : List Nat}, val l = 0 ↔ l = List.replicate l.length 0
  | [] => by simp [val]
  | d :: l => by
    have ih := val_zero (l := l)
    unfold val
    rw [List.length_cons, List.replicate_succ, List.cons.injEq]
    constructor
    · intro h
      have h1 : d * 10 ^ l.length = 0 := by omega
      have h2 : d = 0 := by
        rcases Nat.mul_eq_zero.1 h1 with h | h
        · exact h
        · exact absurd h (Nat.ne_of_gt (Nat.pow_pos (by omega)))
      exact ⟨h2, ih.1 (by omega)⟩
    · rintro ⟨rfl, h⟩
      rw [ih.2 h]; simp
/-- What is left against the half. -/
def cmpHalf (R M : Nat) : Int := if 2 * R < M then -1 else if 2 * R = M then 0 else 1
end Go.Proofs.YtfpmchhpejncpaaDoor
