/- Digits: what Parse answers, in plain words. -/
import Derived.Test.YtfpmchhpejncpaaDoorM
namespace Go.Proofs.YtfpmchhpejncpaaDoor
open Go.RowKit
set_option maxRecDepth 100000
set_option linter.unusedVariables false
/-- What Parse answers for a number's parts. -/
def fillD (B : List UInt8) : List Nat := digs B ++ List.replicate (40 - B.length) 0
def roundUp (D : List Nat) : Int := if 0 < cmpHalf (val (its 32 D).2) (10 ^ 40) ∨ (cmpHalf (val (its 32 D).2) (10 ^ 40) = 0 ∧ (its 32 D).1 % 2 = 1) then 1 else 0
def sumOf (A B : List UInt8) : Int := (min (val (digs A)) 1099511627776 : Nat) * 4294967296 + ((its 32 (fillD B)).1 : Int) + roundUp (fillD B)
def parseT (l : List UInt8) : Value := match partsL l with
  | none => .tuple #[.int .i64 0, .bool false, .int .i64 30]
  | some (below, A, B) => if 20 < A.length ∨ 40 < B.length then .tuple #[.int .i64 0, .bool false, .int .i64 31] else
      .tuple #[.int .i64 (sat (if below then - sumOf A B else sumOf A B)), .bool (satB (if below then - sumOf A B else sumOf A B)), .int .i64 0]
theorem partsL_dig {l : List UInt8} {below : Bool} {A B : List UInt8} (h : partsL l = some (below, A, B)) : (∀ b ∈ A, isDig b = true) ∧ (∀ b ∈ B, isDig b = true) := by
  have hr : ∀ (b0 : Bool) (r : List UInt8), restL b0 r = some (below, A, B) → (∀ b ∈ A, isDig b = true) ∧ (∀ b ∈ B, isDig b = true) := by
    intro b0 r h
    unfold restL at h
    split at h
    · rename_i hh
      have ha : ∀ b ∈ aheadL r, isDig b = true := by
        unfold headOk allL at hh
        simp at hh
        intro b hb
        exact hh.1.2 b hb
      split at h
      · cases h
        exact ⟨ha, fun b hb => by cases hb⟩
      · split at h
        · rename_i hb2
          cases h
          refine ⟨ha, fun b hb => ?_⟩
          unfold allL at hb2
          simp only [Bool.and_eq_true, List.all_eq_true] at hb2
          exact hb2.2 b hb
        · cases h
    · cases h
  unfold partsL at h
  split at h
  · exact hr _ _ h
  · exact hr _ _ h
end Go.Proofs.YtfpmchhpejncpaaDoor
