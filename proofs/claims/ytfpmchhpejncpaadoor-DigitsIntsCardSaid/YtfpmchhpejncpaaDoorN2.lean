/- Digits: minus, noughts and order, in plain words. -/
import Derived.Test.YtfpmchhpejncpaaDoorN
namespace Go.Proofs.YtfpmchhpejncpaaDoor
set_option linter.unusedVariables false
set_option maxRecDepth 100000

theorem parseT_some {l : List UInt8} {below : Bool} {A B : List UInt8} (h : partsL l = some (below, A, B)) (h2 : ¬ (20 < A.length ∨ 40 < B.length)) : parseT l = .tuple #[.int .i64 (sat (if below then - sumOf A B else sumOf A B)), .bool (satB (if below then - sumOf A B else sumOf A B)), .int .i64 0] := by
  unfold parseT; rw [h]; exact if_neg h2
theorem parseT_long {l : List UInt8} {below : Bool} {A B : List UInt8} (h : partsL l = some (below, A, B)) (h2 : 20 < A.length ∨ 40 < B.length) : parseT l = .tuple #[.int .i64 0, .bool false, .int .i64 31] := by
  unfold parseT; rw [h]; exact if_pos h2
theorem parseT_none {l : List UInt8} (h : partsL l = none) : parseT l = .tuple #[.int .i64 0, .bool false, .int .i64 30] := by
  unfold parseT; rw [h]
theorem sumOf_nonneg {l : List UInt8} {below : Bool} {A B : List UInt8} (h : partsL l = some (below, A, B)) (h2 : B.length ≤ 40) : 0 ≤ sumOf A B := by
  rw [sumOf_rnd A (partsL_dig h).2 h2]; omega
theorem minus_parts {l : List UInt8} {A B : List UInt8} (h : partsL l = some (false, A, B)) : partsL (45 :: l) = some (true, A, B) := by
  obtain ⟨e, h1, h2⟩ := partsL_inv h
  have := partsL_join true h1 h2
  have e2 : joinL true A B = 45 :: joinL false A B := by unfold joinL; simp
  rw [e, ← e2]; exact this
/-- Noughts behind. -/
def moreL (l B : List UInt8) (k : Nat) : List UInt8 := l ++ (if B = [] then [46] else []) ++ List.replicate k 48
theorem more_parts {l : List UInt8} {below : Bool} {A B : List UInt8} (h : partsL l = some (below, A, B)) {k : Nat} (hk : 1 ≤ k) : partsL (moreL l B k) = some (below, A, B ++ List.replicate k 48) := by
  obtain ⟨e, h1, h2⟩ := partsL_inv h
  have hd := (partsL_dig h).2
  have hn : B ++ List.replicate k 48 ≠ [] := by
    intro e0
    have := congrArg List.length e0
    simp at this; omega
  have hb : allL (B ++ List.replicate k 48) = true := by
    unfold allL
    simp only [Bool.and_eq_true, List.all_eq_true]
    refine ⟨?_, fun b hb => ?_⟩
    · cases hc : B ++ List.replicate k 48 with
      | nil => exact absurd hc hn
      | cons a r => rfl
    · rcases List.mem_append.1 hb with h3 | h3
      · exact hd b h3
      · rw [(List.mem_replicate.1 h3).2]; decide
  have := partsL_join below h1 (.inr hb)
  have e2 : joinL below A (B ++ List.replicate k 48) = moreL l B k := by
    rw [e]
    unfold joinL joinR moreL
    rw [if_neg hn]
    by_cases hB : B = []
    · subst hB
      simp
    · simp [hB, List.append_assoc]
  rw [← e2]; exact this
theorem fillD_more (B : List UInt8) {k : Nat} (h : B.length + k ≤ 40) : fillD (B ++ List.replicate k 48) = fillD B := by
  unfold fillD digs
  rw [List.map_append, List.map_replicate, List.length_append, List.length_replicate, List.append_assoc]
  congr 1
  rw [show (48 : UInt8).toNat - 48 = 0 by decide, List.replicate_append_replicate]
  congr 1
  omega
theorem sumOf_more (A B : List UInt8) {k : Nat} (h : B.length + k ≤ 40) : sumOf A (B ++ List.replicate k 48) = sumOf A B := by
  unfold sumOf
  rw [fillD_more B h]
theorem parseT_more {l : List UInt8} {below : Bool} {A B : List UInt8} (h : partsL l = some (below, A, B)) {k : Nat} (hk : 1 ≤ k) (hA : A.length ≤ 20) (hB : B.length + k ≤ 40) : parseT (moreL l B k) = parseT l := by
  rw [parseT_some (more_parts h hk) (by rw [List.length_append, List.length_replicate]; omega), parseT_some h (by omega), sumOf_more A B hB]
theorem bl_app : ∀ (X Y u v : List UInt8), X.length = Y.length → Op.bytesLess (X ++ u) (Y ++ v) = (Op.bytesLess X Y || (X == Y && Op.bytesLess u v))
  | [], [], u, v, _ => by simp [Op.bytesLess]
  | [], y :: Y, u, v, h => by simp at h
  | x :: X, [], u, v, h => by simp at h
  | x :: X, y :: Y, u, v, h => by
    have ih := bl_app X Y u v (by simpa using h)
    simp only [List.cons_append, Op.bytesLess, ih, List.cons_beq_cons]
    cases (x == y) <;> cases decide (x < y) <;> simp
theorem val_cons (d : Nat) (l : List Nat) : val (d :: l) = d * 10 ^ l.length + val l := rfl
theorem digs_cons (b : UInt8) (l : List UInt8) : digs (b :: l) = (b.toNat - 48) :: digs l := rfl
theorem digs_len (l : List UInt8) : (digs l).length = l.length := by unfold digs; simp
theorem val_digs_lt {l : List UInt8} (h : ∀ b ∈ l, isDig b = true) : val (digs l) < 10 ^ l.length := by
  have := val_lt (digs_dg h)
  rwa [digs_len] at this
theorem bl_val : ∀ (X Y : List UInt8), X.length = Y.length → (∀ b ∈ X, isDig b = true) → (∀ b ∈ Y, isDig b = true) → (Op.bytesLess X Y = decide (val (digs X) < val (digs Y))) ∧ ((X == Y) = decide (val (digs X) = val (digs Y)))
  | [], [], _, _, _ => ⟨rfl, rfl⟩
  | [], y :: Y, h, _, _ => by simp at h
  | x :: X, [], h, _, _ => by simp at h
  | x :: X, y :: Y, h, hX, hY => by
    have hl : X.length = Y.length := by simpa using h
    have hX' : ∀ b ∈ X, isDig b = true := fun b hb => hX b (List.mem_cons_of_mem _ hb)
    have hY' : ∀ b ∈ Y, isDig b = true := fun b hb => hY b (List.mem_cons_of_mem _ hb)
    obtain ⟨ih1, ih2⟩ := bl_val X Y hl hX' hY'
    have hx := isDig_iff.1 (hX x (List.mem_cons_self ..))
    have hy := isDig_iff.1 (hY y (List.mem_cons_self ..))
    have bx := val_digs_lt hX'
    have bY := val_digs_lt hY'
    simp only [Op.bytesLess, List.cons_beq_cons, ih1, ih2, digs_cons, val_cons, digs_len]
    rw [← hl] at bY ⊢
    obtain ⟨p, hp⟩ : ∃ p, p = 10 ^ X.length := ⟨_, rfl⟩
    rw [← hp] at bx bY ⊢
    have hlt : decide (x < y) = decide (x.toNat < y.toNat) := rfl
    have heq : (x == y) = decide (x.toNat = y.toNat) := by
      by_cases hxy : x = y
      · subst hxy; simp
      · have : x.toNat ≠ y.toNat := fun e => hxy (UInt8.toNat.inj e)
        simp [hxy, this]
    rw [hlt, heq]
    obtain ⟨a, ha⟩ : ∃ a, a = x.toNat - 48 := ⟨_, rfl⟩
    obtain ⟨b, hb⟩ : ∃ b, b = y.toNat - 48 := ⟨_, rfl⟩
    rw [← ha, ← hb]
    rcases Nat.lt_trichotomy a b with h1 | h1 | h1
    · have h2 : (a + 1) * p ≤ b * p := Nat.mul_le_mul_right _ h1
      rw [Nat.add_mul, Nat.one_mul] at h2
      rw [decide_eq_true (show x.toNat < y.toNat by omega), decide_eq_false (show ¬ x.toNat = y.toNat by omega)]
      rw [decide_eq_true (show a * p + val (digs X) < b * p + val (digs Y) by omega), decide_eq_false (show ¬ a * p + val (digs X) = b * p + val (digs Y) by omega)]
      exact ⟨rfl, rfl⟩
    · subst h1
      rw [decide_eq_false (show ¬ x.toNat < y.toNat by omega), decide_eq_true (show x.toNat = y.toNat by omega)]
      refine ⟨?_, ?_⟩
      · simp
      · simp
    · have h2 : (b + 1) * p ≤ a * p := Nat.mul_le_mul_right _ h1
      rw [Nat.add_mul, Nat.one_mul] at h2
      rw [decide_eq_false (show ¬ x.toNat < y.toNat by omega), decide_eq_false (show ¬ x.toNat = y.toNat by omega)]
      rw [decide_eq_false (show ¬ a * p + val (digs X) < b * p + val (digs Y) by omega), decide_eq_false (show ¬ a * p + val (digs X) = b * p + val (digs Y) by omega)]
      exact ⟨rfl, rfl⟩
theorem val_append : ∀ (X Y : List Nat), val (X ++ Y) = val X * 10 ^ Y.length + val Y
  | [], Y => by simp [val]
  | d :: X, Y => by
    rw [List.cons_append, val_cons, val_append X Y, val_cons, List.length_append, Nat.pow_add, Nat.add_mul, Nat.mul_assoc, Nat.add_assoc]
theorem val_rep (n : Nat) : val (List.replicate n 0) = 0 := val_zero.2 (by simp)
theorem val_fillD (B : List UInt8) : val (fillD B) = val (digs B) * 10 ^ (40 - B.length) := by
  unfold fillD
  rw [val_append, val_rep, List.length_replicate, Nat.add_zero]
theorem val_fillD_lt {B : List UInt8} (h : ∀ b ∈ B, isDig b = true) (h2 : B.length ≤ 40) : val (fillD B) < 10 ^ 40 := by
  have := val_lt (fillD_dg h)
  rwa [fillD_len h2] at this
theorem sat_mono {x y : Int} (h : x ≤ y) : sat x ≤ sat y := by
  unfold sat
  split <;> split <;> (try split) <;> (try split) <;> omega
/-- The greater text is no less a number: its sum. -/
theorem sum_mono {A1 A2 B1 B2 : List UInt8} (hb1 : ∀ b ∈ B1, isDig b = true) (hb2 : ∀ b ∈ B2, isDig b = true) (hB : B1.length = B2.length) (h40 : B1.length ≤ 40)
    (h : val (digs A1) < val (digs A2) ∨ (val (digs A1) = val (digs A2) ∧ val (digs B1) ≤ val (digs B2))) : sat (sumOf A1 B1) ≤ sat (sumOf A2 B2) := by
  rw [sumOf_rnd A1 hb1 h40, sumOf_rnd A2 hb2 (by omega)]
  have r1 := rnd_le (val_fillD_lt hb1 h40)
  have r2 := rnd_le (val_fillD_lt hb2 (by omega))
  rcases h with h | ⟨h, h2⟩
  · by_cases hc : val (digs A1) < 1099511627776
    · apply sat_mono
      omega
    · unfold sat
      rw [if_neg (by omega), if_pos (by omega), if_neg (by omega), if_pos (by omega)]
      exact Int.le_refl _
  · have hm := rnd_mono (show val (fillD B1) ≤ val (fillD B2) by rw [val_fillD, val_fillD, hB]; exact Nat.mul_le_mul_right _ h2)
    apply sat_mono
    omega
theorem order_law {l1 l2 A1 A2 B1 B2 : List UInt8} (h1 : partsL l1 = some (false, A1, B1)) (h2 : partsL l2 = some (false, A2, B2)) (hA : A1.length = A2.length) (hB : B1.length = B2.length) (h40 : B1.length ≤ 40) :
    (Op.bytesLess l1 l2 = true → sat (sumOf A1 B1) ≤ sat (sumOf A2 B2)) ∧ (Op.bytesLess l1 l2 = false → l1 ≠ l2 → sat (sumOf A2 B2) ≤ sat (sumOf A1 B1)) ∧ (l1 = l2 → A1 = A2 ∧ B1 = B2) := by
  obtain ⟨e1, ok1, al1⟩ := partsL_inv h1
  obtain ⟨e2, ok2, al2⟩ := partsL_inv h2
  obtain ⟨a1, b1⟩ := partsL_dig h1
  obtain ⟨a2, b2⟩ := partsL_dig h2
  obtain ⟨vA, eA⟩ := bl_val A1 A2 hA a1 a2
  obtain ⟨vB, eB⟩ := bl_val B1 B2 hB b1 b2
  have hl : Op.bytesLess l1 l2 = (decide (val (digs A1) < val (digs A2)) || (decide (val (digs A1) = val (digs A2)) && decide (val (digs B1) < val (digs B2)))) := by
    rw [e1, e2]
    unfold joinL joinR
    simp only [Bool.false_eq_true, if_false, List.nil_append]
    rw [bl_app A1 A2 _ _ hA, vA, eA]
    congr 2
    by_cases hn : B1 = []
    · have hn2 : B2 = [] := List.length_eq_zero_iff.1 (by rw [← hB, hn]; rfl)
      rw [if_pos hn, if_pos hn2, hn, hn2]; rfl
    · have hn2 : B2 ≠ [] := fun e => hn (List.length_eq_zero_iff.1 (by rw [hB, e]; rfl))
      rw [if_neg hn, if_neg hn2, ← vB]
      simp [Op.bytesLess]
  refine ⟨fun h => ?_, fun h hne => ?_, fun h => ?_⟩
  · rw [hl] at h
    simp only [Bool.or_eq_true, Bool.and_eq_true, decide_eq_true_eq] at h
    exact sum_mono b1 b2 hB h40 (by omega)
  · rw [hl] at h
    simp only [Bool.or_eq_false_iff, Bool.and_eq_false_iff, decide_eq_false_iff_not] at h
    exact sum_mono b2 b1 hB.symm (by omega) (by omega)
  · rw [h, h2] at h1
    simp at h1
    exact ⟨h1.1.symm, h1.2.symm⟩
end Go.Proofs.YtfpmchhpejncpaaDoor
