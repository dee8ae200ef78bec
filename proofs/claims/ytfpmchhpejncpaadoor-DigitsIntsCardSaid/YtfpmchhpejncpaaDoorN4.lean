/- Digits: the document's way of reading a text, in plain words. -/
import Derived.Test.YtfpmchhpejncpaaDoorN2
namespace Go.Proofs.YtfpmchhpejncpaaDoor
set_option linter.unusedVariables false
set_option maxRecDepth 100000

/-- A list of digits, the lowest first, as a number. -/
def lv : List Nat → Nat
  | [] => 0
  | d :: l => d + 10 * lv l
theorem lv_append : ∀ (X Y : List Nat), lv (X ++ Y) = lv X + 10 ^ X.length * lv Y
  | [], Y => by simp [lv]
  | d :: X, Y => by
    rw [List.cons_append, lv, lv_append X Y, lv, List.length_cons, Nat.pow_succ, Nat.mul_comm (10 ^ X.length) 10, Nat.mul_assoc]
    omega
theorem lv_lt : ∀ {l : List Nat}, Dg l → lv l < 10 ^ l.length
  | [], _ => by simp [lv]
  | d :: l, h => by
    have := lv_lt h.tail
    have := h.head
    rw [lv, List.length_cons, Nat.pow_succ]
    omega
theorem lv_reverse : ∀ l : List Nat, lv l.reverse = val l
  | [] => rfl
  | d :: l => by
    rw [List.reverse_cons, lv_append, lv_reverse l, List.length_reverse, val_cons]
    simp only [lv, Nat.mul_zero, Nat.add_zero]
    rw [Nat.mul_comm]
    omega
/-- The digits of a number, the lowest first. -/
def lowD (c : Nat) : List Nat := if h : c = 0 then [] else c % 10 :: lowD (c / 10)
termination_by c
decreasing_by omega
theorem lowD_zero : lowD 0 = [] := by rw [lowD, dif_pos rfl]
theorem lowD_succ {c : Nat} (h : c ≠ 0) : lowD c = c % 10 :: lowD (c / 10) := by rw [lowD, dif_neg h]
theorem lowD_all (c : Nat) : Dg (lowD c) ∧ lv (lowD c) = c := by
  induction c using Nat.strongRecOn with
  | ind c ih =>
    by_cases h : c = 0
    · subst h; rw [lowD_zero]; exact ⟨(fun d hd => by cases hd), rfl⟩
    · obtain ⟨h1, h2⟩ := ih (c / 10) (by omega)
      rw [lowD_succ h]
      refine ⟨fun d hd => ?_, ?_⟩
      · rcases List.mem_cons.1 hd with rfl | hd
        · omega
        · exact h1 d hd
      · rw [lv, h2]; omega
theorem lowD_len : ∀ (k c : Nat), c < 10 ^ k → (lowD c).length ≤ k
  | 0, c, h => by
    have : c = 0 := by simpa using h
    subst this; rw [lowD_zero]; exact Nat.le_refl _
  | k + 1, c, h => by
    by_cases h0 : c = 0
    · subst h0; rw [lowD_zero]; simp
    · rw [lowD_succ h0, List.length_cons]
      have := lowD_len k (c / 10) (by rw [Nat.pow_succ] at h; omega)
      omega
/-- A list of digits, the lowest first, times n, and c more. -/
def timL : List Nat → Nat → Nat → List Nat
  | [], n, c => lowD c
  | d :: l, n, c => (c + d * n) % 10 :: timL l n ((c + d * n) / 10)
theorem timL_all : ∀ (l : List Nat) (n c : Nat), Dg (timL l n c) ∧ lv (timL l n c) = c + n * lv l
  | [], n, c => by
    have := lowD_all c
    rw [timL, lv]
    exact ⟨this.1, by rw [this.2]; omega⟩
  | d :: l, n, c => by
    obtain ⟨h1, h2⟩ := timL_all l n ((c + d * n) / 10)
    rw [timL]
    refine ⟨fun x hx => ?_, ?_⟩
    · rcases List.mem_cons.1 hx with rfl | hx
      · omega
      · exact h1 x hx
    · rw [lv, h2, lv, Nat.mul_add n, Nat.mul_left_comm n 10, Nat.mul_comm n d]
      obtain ⟨q, hq⟩ : ∃ q, q = n * lv l := ⟨_, rfl⟩
      obtain ⟨y, hy⟩ : ∃ y, y = d * n := ⟨_, rfl⟩
      rw [← hq, ← hy]
      omega
theorem timL_len : ∀ (l : List Nat) (n c : Nat), l.length ≤ (timL l n c).length
  | [], n, c => Nat.zero_le _
  | d :: l, n, c => by rw [timL, List.length_cons, List.length_cons]; have := timL_len l n ((c + d * n) / 10); omega
theorem timL_len_le : ∀ (l : List Nat) (c : Nat), Dg l → c ≤ 4294967296 → (timL l 4294967296 c).length ≤ l.length + 10
  | [], c, _, hc => by rw [timL]; have := lowD_len 10 c (by omega); simp; omega
  | d :: l, c, h, hc => by
    have hd := h.head
    rw [timL, List.length_cons, List.length_cons]
    have := timL_len_le l ((c + d * 4294967296) / 10) h.tail (by omega)
    omega
/-- What is cut off, against its half: 0 nothing, 1 less, 2 half, 3 more. -/
def cls (L M : Nat) : Nat := if L = 0 then 0 else if 2 * L < M then 1 else if 2 * L = M then 2 else 3
theorem cls_step (L M d : Nat) (h : L < M) (hd : d < 10) : cls (L + M * d) (M * 10) = if d > 5 ∨ d = 5 ∧ cls L M > 0 then 3 else if d = 5 then 2 else if d > 0 ∨ cls L M > 0 then 1 else cls L M := by
  have hc : cls L M > 0 ↔ L ≠ 0 := by
    unfold cls
    split
    · simp_all
    · split
      · simp_all
      · split <;> simp_all
  have h0 : L = 0 → cls L M = 0 := fun e => by unfold cls; rw [if_pos e]
  obtain ⟨k, hk⟩ : ∃ k, k = cls L M := ⟨_, rfl⟩
  rw [← hk] at hc h0 ⊢
  rcases (show d = 0 ∨ d = 1 ∨ d = 2 ∨ d = 3 ∨ d = 4 ∨ d = 5 ∨ d = 6 ∨ d = 7 ∨ d = 8 ∨ d = 9 by omega) with rfl | rfl | rfl | rfl | rfl | rfl | rfl | rfl | rfl | rfl
  all_goals
    unfold cls
    by_cases hL : L = 0
    · have := h0 hL
      subst hL
      subst this
      (repeat' split) <;> omega
    · have := hc.2 hL
      (repeat' split) <;> omega
/-- What the number becomes. -/
def upTo (X c : Nat) : Nat := if 9223372036854775808 < X then 9223372036854775809 else if c = 3 ∨ c = 2 ∧ X % 2 = 1 then X + 1 else X
/-- The digits of a text, times 2^32: the lowest first. -/
def allD (A B : List UInt8) : List Nat := timL (digs (A ++ B)).reverse 4294967296 0
theorem allD_val (A B : List UInt8) : lv (allD A B) = 4294967296 * val (digs (A ++ B)) := by
  unfold allD
  rw [(timL_all _ _ _).2, lv_reverse]; omega
theorem lv_take_drop (l : List Nat) (h : Dg l) (k : Nat) (hk : k ≤ l.length) : lv (l.take k) = lv l % 10 ^ k ∧ lv (l.drop k) = lv l / 10 ^ k := by
  have e := lv_append (l.take k) (l.drop k)
  rw [List.take_append_drop, List.length_take, Nat.min_eq_left hk] at e
  have hlt : lv (l.take k) < 10 ^ k := by
    have := lv_lt (l := l.take k) (fun d hd => h d (List.mem_of_mem_take hd))
    rwa [List.length_take, Nat.min_eq_left hk] at this
  rw [e]
  constructor
  · rw [Nat.add_mul_mod_self_left, Nat.mod_eq_of_lt hlt]
  · rw [Nat.add_mul_div_left _ _ (Nat.pow_pos (by omega) : 0 < 10 ^ k), Nat.div_eq_of_lt hlt, Nat.zero_add]
theorem digs_app2 (X Y : List UInt8) : digs (X ++ Y) = digs X ++ digs Y := by unfold digs; rw [List.map_append]
/-- The document's number and the program's are held alike. -/
theorem ref_sum {A B : List UInt8} (hA : ∀ b ∈ A, isDig b = true) (hB : ∀ b ∈ B, isDig b = true) (h40 : B.length ≤ 40) :
    let X := lv ((allD A B).drop B.length)
    let c := cls (lv ((allD A B).take B.length)) (10 ^ B.length)
    (∃ n : Nat, upTo X c = n ∧ sat (n : Int) = sat (sumOf A B) ∧ satB (n : Int) = satB (sumOf A B) ∧ sat (-(n : Int)) = sat (-(sumOf A B)) ∧ satB (-(n : Int)) = satB (-(sumOf A B))) := by
  intro X c
  refine ⟨_, rfl, ?_⟩
  have hlen : B.length ≤ (allD A B).length := by
    have := timL_len (digs (A ++ B)).reverse 4294967296 0
    rw [List.length_reverse, digs_len, List.length_append] at this
    unfold allD; omega
  obtain ⟨h1, h2⟩ := lv_take_drop (allD A B) (timL_all _ _ _).1 B.length hlen
  have hv : val (digs (A ++ B)) = val (digs A) * 10 ^ B.length + val (digs B) := by rw [digs_app2, val_append, digs_len]
  rw [allD_val, hv] at h1 h2
  have hX : X = 4294967296 * val (digs A) + 4294967296 * val (digs B) / 10 ^ B.length := by
    show lv ((allD A B).drop B.length) = _
    rw [h2, Nat.mul_add, ← Nat.mul_assoc, Nat.add_comm, Nat.add_mul_div_right _ _ (Nat.pow_pos (by omega) : 0 < 10 ^ B.length), Nat.add_comm]
  have hL : lv ((allD A B).take B.length) = 4294967296 * val (digs B) % 10 ^ B.length := by
    rw [h1, Nat.mul_add, ← Nat.mul_assoc, Nat.add_comm, Nat.add_mul_mod_self_right]
  have hc : c = cls (4294967296 * val (digs B) % 10 ^ B.length) (10 ^ B.length) := by
    show cls _ _ = _
    rw [hL]
  clear_value X c
  clear h1 h2 hL hv hlen
  rw [sumOf_rnd A hB h40, val_fillD]
  have hpow : 10 ^ B.length * 10 ^ (40 - B.length) = 10 ^ 40 := by rw [← Nat.pow_add, show B.length + (40 - B.length) = 40 by omega]
  have hp1 : 0 < 10 ^ B.length := Nat.pow_pos (by omega)
  have hp2 : 0 < 10 ^ (40 - B.length) := Nat.pow_pos (by omega)
  obtain ⟨a, ha⟩ : ∃ a, a = val (digs A) := ⟨_, rfl⟩
  obtain ⟨b, hb⟩ : ∃ b, b = val (digs B) := ⟨_, rfl⟩
  obtain ⟨p, hp⟩ : ∃ p, p = 10 ^ B.length := ⟨_, rfl⟩
  obtain ⟨s, hs⟩ : ∃ s, s = 10 ^ (40 - B.length) := ⟨_, rfl⟩
  rw [← ha, ← hb, ← hp] at hX
  rw [← hb, ← hp] at hc
  rw [← hp] at hp1 hpow
  rw [← hs] at hp2 hpow
  rw [← ha, ← hb, ← hs]
  have e1 : 4294967296 * (b * s) / 10 ^ 40 = 4294967296 * b / p := by rw [← Nat.mul_assoc, ← hpow, Nat.mul_div_mul_right _ _ hp2]
  have e2 : 4294967296 * (b * s) % 10 ^ 40 = (4294967296 * b % p) * s := by rw [← Nat.mul_assoc, ← hpow, Nat.mul_mod_mul_right]
  have hrn : rnd (b * s) = 4294967296 * b / p + (if p < 2 * (4294967296 * b % p) ∨ (2 * (4294967296 * b % p) = p ∧ 4294967296 * b / p % 2 = 1) then 1 else 0) := by
    unfold rnd
    rw [e1, e2, ← hpow]
    have i1 : p * s < 2 * (4294967296 * b % p * s) ↔ p < 2 * (4294967296 * b % p) := by
      rw [← Nat.mul_assoc]; exact Nat.mul_lt_mul_right hp2
    have i2 : 2 * (4294967296 * b % p * s) = p * s ↔ 2 * (4294967296 * b % p) = p := by
      rw [← Nat.mul_assoc]; exact ⟨fun h => Nat.eq_of_mul_eq_mul_right hp2 h, fun h => by rw [h]⟩
    simp only [i1, i2]
  rw [hrn]
  clear hrn e1 e2 hpow hs
  obtain ⟨q, hq⟩ : ∃ q, q = 4294967296 * b / p := ⟨_, rfl⟩
  obtain ⟨r, hr⟩ : ∃ r, r = 4294967296 * b % p := ⟨_, rfl⟩
  rw [← hr] at hc
  rw [← hq] at hX
  rw [← hq, ← hr]
  have hcc : (c = 3 ∨ c = 2 ∧ X % 2 = 1) ↔ (p < 2 * r ∨ (2 * r = p ∧ q % 2 = 1)) := by
    rw [hc]
    unfold cls
    by_cases c0 : r = 0
    · rw [if_pos c0]; omega
    · rw [if_neg c0]
      by_cases c1 : 2 * r < p
      · rw [if_pos c1]; omega
      · rw [if_neg c1]
        by_cases c2 : 2 * r = p
        · rw [if_pos c2]; omega
        · rw [if_neg c2]; omega
  have hu : upTo X c = if 9223372036854775808 < X then 9223372036854775809 else X + (if p < 2 * r ∨ (2 * r = p ∧ q % 2 = 1) then 1 else 0) := by
    unfold upTo
    by_cases h : 9223372036854775808 < X
    · rw [if_pos h, if_pos h]
    · rw [if_neg h, if_neg h]
      by_cases h2 : p < 2 * r ∨ (2 * r = p ∧ q % 2 = 1)
      · rw [if_pos h2, if_pos (hcc.2 h2)]
      · rw [if_neg h2, if_neg (fun h3 => h2 (hcc.1 h3))]; rfl
  rw [hu]
  obtain ⟨u, hu1, hu2⟩ : ∃ u, u ≤ 1 ∧ (if p < 2 * r ∨ (2 * r = p ∧ q % 2 = 1) then 1 else 0) = u := by
    by_cases h2 : p < 2 * r ∨ (2 * r = p ∧ q % 2 = 1)
    · exact ⟨1, by omega, if_pos h2⟩
    · exact ⟨0, by omega, if_neg h2⟩
  rw [hu2]
  clear hu hcc hc hu2 hr hq hp hp1 hp2 ha hb hA hB
  by_cases h : 9223372036854775808 < X
  · rw [if_pos h]
    obtain ⟨T, hT⟩ : ∃ T : Nat, T = min a 1099511627776 * 4294967296 + (q + u) := ⟨_, rfl⟩
    rw [← hT]
    have hbig : 9223372036854775808 < T := by rw [hT]; omega
    refine ⟨?_, ?_, ?_, ?_⟩
    · unfold sat; rw [if_neg (by omega), if_pos (by omega), if_neg (by omega), if_pos (by omega)]
    · unfold satB; rw [decide_eq_true (by omega), decide_eq_true (by omega)]
    · unfold sat; rw [if_pos (by omega), if_pos (by omega)]
    · unfold satB; rw [decide_eq_true (by omega), decide_eq_true (by omega)]
  · rw [if_neg h]
    have e : min a 1099511627776 * 4294967296 + (q + u) = X + u := by omega
    rw [e]
    exact ⟨rfl, rfl, rfl, rfl⟩
end Go.Proofs.YtfpmchhpejncpaaDoor
