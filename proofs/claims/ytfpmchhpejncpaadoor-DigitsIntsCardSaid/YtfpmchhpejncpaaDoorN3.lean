/- Digits: what is told is read again, in plain words. -/
import Derived.Test.YtfpmchhpejncpaaDoorN2
namespace Go.Proofs.YtfpmchhpejncpaaDoor
set_option linter.unusedVariables false
set_option maxRecDepth 100000

theorem dch_toNat {d : Nat} (h : d < 10) : (dch d).toNat = 48 + d := by
  unfold dch
  rw [UInt8.toNat_ofNat']
  omega
theorem dch_dig {d : Nat} (h : d < 10) : isDig (dch d) = true := isDig_iff.2 (by rw [dch_toNat h]; omega)
theorem dec_small {u : Nat} (h : u < 10) : Lib.decDigits u = [dch u] := by rw [Lib.decDigits, dif_pos h]; rfl
theorem dec_big {u : Nat} (h : ¬ u < 10) : Lib.decDigits u = Lib.decDigits (u / 10) ++ [dch (u % 10)] := by rw [Lib.decDigits, dif_neg h]; rfl
theorem digs_append (X Y : List UInt8) : digs (X ++ Y) = digs X ++ digs Y := by unfold digs; rw [List.map_append]
theorem dec_all (u : Nat) : (∀ b ∈ Lib.decDigits u, isDig b = true) ∧ val (digs (Lib.decDigits u)) = u := by
  induction u using Nat.strongRecOn with
  | ind u ih =>
    by_cases h : u < 10
    · rw [dec_small h]
      refine ⟨fun b hb => ?_, ?_⟩
      · rw [List.mem_singleton.1 hb]; exact dch_dig h
      · rw [digs_cons, val_cons, dch_toNat h]; simp [digs, val]
    · obtain ⟨h1, h2⟩ := ih (u / 10) (by omega)
      rw [dec_big h]
      refine ⟨fun b hb => ?_, ?_⟩
      · rcases List.mem_append.1 hb with hb | hb
        · exact h1 b hb
        · rw [List.mem_singleton.1 hb]; exact dch_dig (by omega)
      · rw [digs_append, digs_cons, show digs [] = [] from rfl, val_app, h2, dch_toNat (by omega)]
        omega
theorem dec_head (u : Nat) (hu : 0 < u) : ∃ d r, Lib.decDigits u = dch d :: r ∧ 0 < d ∧ d < 10 := by
  induction u using Nat.strongRecOn with
  | ind u ih =>
    by_cases h : u < 10
    · exact ⟨u, [], dec_small h, hu, h⟩
    · obtain ⟨d, r, e, h1, h2⟩ := ih (u / 10) (by omega) (by omega)
      exact ⟨d, r ++ [dch (u % 10)], by rw [dec_big h, e]; rfl, h1, h2⟩
theorem dec_ok (u : Nat) : headOk (Lib.decDigits u) = true := by
  have hd := (dec_all u).1
  by_cases hu : 0 < u
  · obtain ⟨d, r, e, h1, h2⟩ := dec_head u hu
    unfold headOk allL
    rw [e] at hd ⊢
    have : dch d ≠ 48 := fun e => by
      have := congrArg UInt8.toNat e
      rw [dch_toNat h2] at this
      simp at this
      omega
    simp only [List.isEmpty_cons, Bool.not_false, Bool.true_and, List.head?_cons, Bool.and_eq_true, List.all_eq_true, Bool.or_eq_true]
    exact ⟨hd, .inr (by simpa using this)⟩
  · have : u = 0 := by omega
    subst this
    rw [dec_small (by omega)]
    decide
theorem frac_dig {j r : Nat} (h : Rest j r) : ∀ b ∈ frac (32 - j) r, isDig b = true := by
  obtain ⟨n, hn⟩ : ∃ n, n = 32 - j := ⟨_, rfl⟩
  induction n generalizing j r with
  | zero => rw [← hn]; intro b hb; cases hb
  | succ n ih =>
    by_cases h0 : r = 0
    · subst h0; rw [frac_zero]; intro b hb; cases hb
    · rw [frac_step h h0]
      intro b hb
      rcases List.mem_cons.1 hb with rfl | hb
      · exact dch_dig (by have := h.lt; omega)
      · exact ih (h.next h0) (by omega) b hb
theorem frac_val {j r : Nat} (h : Rest j r) : val (digs (frac (32 - j) r)) * 4294967296 = r * 10 ^ (frac (32 - j) r).length := by
  obtain ⟨n, hn⟩ : ∃ n, n = 32 - j := ⟨_, rfl⟩
  induction n generalizing j r with
  | zero =>
    by_cases h0 : r = 0
    · subst h0; rw [frac_zero]; simp [digs, val]
    · have := h.more h0; omega
  | succ n ih =>
    by_cases h0 : r = 0
    · subst h0; rw [frac_zero]; simp [digs, val]
    · have e := ih (h.next h0) (by omega)
      have hlt := h.lt
      rw [frac_step h h0, digs_cons, val_cons, digs_len, dch_toNat (by omega), List.length_cons, Nat.add_sub_cancel_left]
      obtain ⟨F, hF⟩ : ∃ F, F = frac (32 - (j + 1)) (10 * r % 4294967296) := ⟨_, rfl⟩
      rw [← hF] at e ⊢
      obtain ⟨p, hp⟩ : ∃ p, p = 10 ^ F.length := ⟨_, rfl⟩
      rw [Nat.pow_succ]
      rw [← hp] at e ⊢
      have h3 := Nat.div_add_mod (10 * r) 4294967296
      rw [Nat.add_mul, e]
      have : 10 * r / 4294967296 * p * 4294967296 = (4294967296 * (10 * r / 4294967296)) * p := by
        rw [Nat.mul_right_comm, Nat.mul_comm (10 * r / 4294967296) 4294967296]
      rw [this, ← Nat.add_mul, h3, Nat.mul_comm p 10, ← Nat.mul_assoc, Nat.mul_comm r 10]
/-- What stands behind the point. -/
def behindT (m : Nat) : List UInt8 := if m % 4294967296 = 0 then [] else frac 32 (m % 4294967296)
theorem textL_join (below : Bool) (m : Nat) : textL below m = joinL below (Lib.decDigits (m / 4294967296)) (behindT m) := by
  unfold textL joinL joinR behindT
  by_cases h : m % 4294967296 = 0
  · rw [if_pos h, if_pos h]; simp
  · rw [if_neg h, if_neg h]
    have : frac 32 (m % 4294967296) ≠ [] := by rw [frac_succ h]; simp
    rw [if_neg this]; simp
theorem behindT_val (m : Nat) : rnd (val (fillD (behindT m))) = m % 4294967296 ∧ (behindT m).length ≤ 32 ∧ (∀ b ∈ behindT m, isDig b = true) ∧ (behindT m = [] ∨ allL (behindT m) = true) := by
  unfold behindT
  by_cases h : m % 4294967296 = 0
  · rw [if_pos h, h]
    refine ⟨?_, by simp, (fun b hb => by cases hb), .inl rfl⟩
    rw [val_fillD]
    simp [digs, val, rnd]
  · rw [if_neg h]
    have hr := Rest.start (r := m % 4294967296) (Nat.mod_lt _ (by omega))
    have hd := frac_dig hr
    have hv := frac_val hr
    have hl := frac_len 32 (m % 4294967296)
    have hlt := hr.lt
    rw [show 32 - 0 = 32 by rfl] at hd hv
    obtain ⟨r, hrr⟩ : ∃ r, r = m % 4294967296 := ⟨_, rfl⟩
    rw [← hrr] at h hd hv hl hlt ⊢
    refine ⟨?_, hl, hd, .inr ?_⟩
    · rw [val_fillD]
      have e : val (digs (frac 32 r)) * 10 ^ (40 - (frac 32 r).length) * 4294967296 = r * 10 ^ 40 := by
        rw [Nat.mul_right_comm, hv, Nat.mul_assoc, ← Nat.pow_add, show (frac 32 r).length + (40 - (frac 32 r).length) = 40 by omega]
      obtain ⟨v, hvv⟩ : ∃ v, v = val (digs (frac 32 r)) * 10 ^ (40 - (frac 32 r).length) := ⟨_, rfl⟩
      rw [← hvv] at e ⊢
      unfold rnd
      rw [show (10 : Nat) ^ 40 = 10000000000000000000000000000000000000000 by decide] at e ⊢
      split <;> omega
    · unfold allL
      simp only [Bool.and_eq_true, List.all_eq_true]
      refine ⟨?_, hd⟩
      rw [frac_succ h]; rfl
theorem dec_len20 {u : Nat} (h : u < 10000000000) : (Lib.decDigits u).length ≤ 10 := by
  have := dec_len 10 u (by omega) (by omega)
  exact this
theorem parse_text (below : Bool) (a : Int) (m : Nat) (ha : a = if below = true then -(m : Int) else m) (hm : m ≤ 9223372036854775808) (hp : below = false → m ≤ 9223372036854775807) :
    parseT (textL below m) = .tuple #[.int .i64 a, .bool false, .int .i64 0] := by
  obtain ⟨h1, h2, h3, h4⟩ := behindT_val m
  have hj := partsL_join below (dec_ok (m / 4294967296)) h4
  have hl := dec_len20 (u := m / 4294967296) (by omega)
  rw [textL_join, parseT_some hj (by omega)]
  have e : sumOf (Lib.decDigits (m / 4294967296)) (behindT m) = (m : Int) := by
    rw [sumOf_rnd _ h3 (by omega), h1, (dec_all _).2]
    omega
  have e2 : (if below = true then -sumOf (Lib.decDigits (m / 4294967296)) (behindT m) else sumOf (Lib.decDigits (m / 4294967296)) (behindT m)) = a := by
    rw [e, ha]
  rw [e2]
  have h6 : -9223372036854775808 ≤ a ∧ a ≤ 9223372036854775807 := by
    cases below with
    | true => rw [ha]; simp only [if_true]; omega
    | false => rw [ha]; have := hp rfl; simp only [Bool.false_eq_true, if_false]; omega
  have h7 : sat a = a := by unfold sat; rw [if_neg (by omega), if_neg (by omega)]
  have h8 : satB a = false := by unfold satB; exact decide_eq_false (by omega)
  rw [h7, h8]
end Go.Proofs.YtfpmchhpejncpaaDoor
