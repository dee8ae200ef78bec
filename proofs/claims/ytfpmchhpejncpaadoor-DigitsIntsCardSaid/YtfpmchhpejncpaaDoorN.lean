/- Digits: plain laws about the texts of numbers. -/
import Derived.Test.YtfpmchhpejncpaaDoorQ0
namespace Go.Proofs.YtfpmchhpejncpaaDoor
set_option linter.unusedVariables false
set_option maxRecDepth 100000

/-- The text of a number's parts. -/
def joinR (A B : List UInt8) : List UInt8 := A ++ (if B = [] then [] else 46 :: B)
def joinL (below : Bool) (A B : List UInt8) : List UInt8 := (if below = true then [45] else []) ++ joinR A B
theorem dig_ne {b : UInt8} (h : isDig b = true) (c : UInt8) (hc : isDig c = false) : b ≠ c := by
  rintro rfl
  rw [h] at hc; cases hc
theorem ahead_join : ∀ {A : List UInt8} (h : ∀ b ∈ A, isDig b = true) (B : List UInt8), aheadL (joinR A B) = A
  | [], h, B => by
    unfold joinR aheadL
    split
    · rfl
    · rfl
  | a :: A, h, B => by
    have hne : a ≠ 46 := dig_ne (h a (List.mem_cons_self ..)) 46 (by decide)
    have ih := ahead_join (fun b hb => h b (List.mem_cons_of_mem _ hb)) B
    unfold joinR aheadL at ih ⊢
    rw [List.cons_append, List.takeWhile_cons, if_pos (by simpa using hne), ih]
theorem allL_dig {A : List UInt8} (h : allL A = true) : ∀ b ∈ A, isDig b = true := by
  unfold allL at h
  simp only [Bool.and_eq_true, List.all_eq_true] at h
  exact h.2
theorem allL_ne {A : List UInt8} (h : allL A = true) : A ≠ [] := by rintro rfl; cases h
theorem headOk_all {A : List UInt8} (h : headOk A = true) : allL A = true := by
  unfold headOk at h
  simp only [Bool.and_eq_true] at h
  exact h.1
theorem restL_join (below : Bool) {A B : List UInt8} (hA : headOk A = true) (hB : B = [] ∨ allL B = true) : restL below (joinR A B) = some (below, A, B) := by
  have e := ahead_join (allL_dig (headOk_all hA)) B
  rcases hB with rfl | hB
  · have e2 : joinR A [] = A := by unfold joinR; simp
    rw [e2] at e ⊢
    have := restL_whole (below := below) (r := A) (by rw [e]; exact hA) e
    exact this
  · have hn := allL_ne hB
    refine restL_some (by rw [e]; exact hA) ?_ e ?_ hB
    · rw [e]; unfold joinR; simp [hn]
    · rw [e]; unfold joinR; simp [hn, List.drop_append]
theorem partsL_join (below : Bool) {A B : List UInt8} (hA : headOk A = true) (hB : B = [] ∨ allL B = true) : partsL (joinL below A B) = some (below, A, B) := by
  cases below with
  | true =>
    unfold partsL joinL
    simp only [if_true, List.cons_append, List.nil_append, List.head?_cons, List.tail_cons]
    exact restL_join true hA hB
  | false =>
    have hd := allL_dig (headOk_all hA)
    have hn := allL_ne (headOk_all hA)
    have : (joinL false A B).head? ≠ some 45 := by
      unfold joinL joinR
      cases A with
      | nil => exact absurd rfl hn
      | cons a A =>
        simp only [Bool.false_eq_true, if_false, List.nil_append, List.cons_append, List.head?_cons, ne_eq, Option.some.injEq]
        exact dig_ne (hd a (List.mem_cons_self ..)) 45 (by decide)
    unfold partsL
    rw [if_neg this]
    have e : joinL false A B = joinR A B := by unfold joinL; simp
    rw [e]
    exact restL_join false hA hB
theorem ahead_split : ∀ r : List UInt8, aheadL r = r ∨ ((aheadL r).length ≠ r.length ∧ r = aheadL r ++ 46 :: r.drop ((aheadL r).length + 1))
  | [] => .inl rfl
  | b :: r => by
    by_cases hb : b = 46
    · subst hb
      right
      unfold aheadL
      simp
    · have e : aheadL (b :: r) = b :: aheadL r := by
        unfold aheadL
        rw [List.takeWhile_cons, if_pos (by simpa using hb)]
      rw [e]
      rcases ahead_split r with h | ⟨h1, h2⟩
      · left; rw [h]
      · right
        refine ⟨by simpa using h1, ?_⟩
        rw [List.cons_append, List.length_cons, List.drop_succ_cons, ← h2]
theorem restL_inv {b0 below : Bool} {r A B : List UInt8} (h : restL b0 r = some (below, A, B)) : below = b0 ∧ r = joinR A B ∧ headOk A = true ∧ (B = [] ∨ allL B = true) := by
  unfold restL at h
  split at h
  · rename_i hh
    rcases ahead_split r with h1 | ⟨h1, h2⟩
    · rw [if_pos (by rw [h1])] at h
      cases h
      refine ⟨rfl, ?_, hh, .inl rfl⟩
      unfold joinR; simp [h1]
    · rw [if_neg h1] at h
      split at h
      · rename_i hb
        cases h
        refine ⟨rfl, ?_, hh, .inr hb⟩
        unfold joinR
        rw [if_neg (allL_ne hb)]
        exact h2
      · cases h
  · cases h
theorem partsL_inv {l : List UInt8} {below : Bool} {A B : List UInt8} (h : partsL l = some (below, A, B)) : l = joinL below A B ∧ headOk A = true ∧ (B = [] ∨ allL B = true) := by
  unfold partsL at h
  split at h
  · rename_i hh
    obtain ⟨rfl, e, h1, h2⟩ := restL_inv h
    refine ⟨?_, h1, h2⟩
    cases l with
    | nil => cases hh
    | cons a l =>
      have : a = 45 := by simpa using hh
      subst this
      unfold joinL
      simp only [if_true, List.cons_append, List.nil_append]
      rw [← e]; rfl
  · obtain ⟨rfl, e, h1, h2⟩ := restL_inv h
    refine ⟨?_, h1, h2⟩
    rw [e]; unfold joinL; simp
/-- To the nearest, of two the even one. -/
def rnd (v : Nat) : Nat := 4294967296 * v / 10 ^ 40 + (if 10 ^ 40 < 2 * (4294967296 * v % 10 ^ 40) ∨ (2 * (4294967296 * v % 10 ^ 40) = 10 ^ 40 ∧ 4294967296 * v / 10 ^ 40 % 2 = 1) then 1 else 0)
theorem rnd_mono {v u : Nat} (h : v ≤ u) : rnd v ≤ rnd u := by
  unfold rnd
  rw [show (10 : Nat) ^ 40 = 10000000000000000000000000000000000000000 by decide]
  split <;> split <;> omega
theorem rnd_le {v : Nat} (h : v < 10 ^ 40) : rnd v ≤ 4294967296 := by
  unfold rnd
  rw [show (10 : Nat) ^ 40 = 10000000000000000000000000000000000000000 by decide] at h ⊢
  split <;> omega
theorem fillD_len {B : List UInt8} (h : B.length ≤ 40) : (fillD B).length = 40 := by
  unfold fillD digs
  rw [List.length_append, List.length_map, List.length_replicate]; omega
theorem fillD_dg {B : List UInt8} (h : ∀ b ∈ B, isDig b = true) : Dg (fillD B) := by
  intro d hd
  rcases List.mem_append.1 hd with h1 | h1
  · exact digs_dg h d h1
  · have := (List.mem_replicate.1 h1).2; omega
theorem sumOf_rnd (A : List UInt8) {B : List UInt8} (hB : ∀ b ∈ B, isDig b = true) (h : B.length ≤ 40) : sumOf A B = ((min (val (digs A)) 1099511627776 * 4294967296 + rnd (val (fillD B)) : Nat) : Int) := by
  have hd := its_div (k := 32) (fillD_dg hB)
  rw [fillD_len h] at hd
  obtain ⟨h1, h2⟩ := hd
  rw [show (2 : Nat) ^ 32 = 4294967296 by decide] at h1 h2
  have e : roundUp (fillD B) = ((if 10 ^ 40 < 2 * (4294967296 * val (fillD B) % 10 ^ 40) ∨ (2 * (4294967296 * val (fillD B) % 10 ^ 40) = 10 ^ 40 ∧ 4294967296 * val (fillD B) / 10 ^ 40 % 2 = 1) then 1 else 0 : Nat) : Int) := by
    unfold roundUp cmpHalf
    rw [h1, h2]
    obtain ⟨r, hr⟩ : ∃ r, r = 4294967296 * val (fillD B) % 10 ^ 40 := ⟨_, rfl⟩
    obtain ⟨q, hq⟩ : ∃ q, q = 4294967296 * val (fillD B) / 10 ^ 40 := ⟨_, rfl⟩
    rw [← hr, ← hq]
    rw [show (10 : Nat) ^ 40 = 10000000000000000000000000000000000000000 by decide]
    by_cases c1 : 2 * r < 10000000000000000000000000000000000000000
    · rw [if_pos c1, if_neg (by omega), if_neg (by omega)]; rfl
    · rw [if_neg c1]
      by_cases c2 : 2 * r = 10000000000000000000000000000000000000000
      · rw [if_pos c2]
        by_cases c3 : q % 2 = 1
        · rw [if_pos (by omega), if_pos (by omega)]; rfl
        · rw [if_neg (by omega), if_neg (by omega)]; rfl
      · rw [if_neg c2, if_pos (by omega), if_pos (by omega)]; rfl
  unfold sumOf
  rw [e, h1]
  unfold rnd
  omega
end Go.Proofs.YtfpmchhpejncpaaDoor
