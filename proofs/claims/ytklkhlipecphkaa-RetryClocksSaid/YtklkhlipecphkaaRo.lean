/- Retry: the row's walk of RetryClocks. -/
import Derived.Test.YtklkhlipecphkaaRn
import Derived.Deep.SlicePairs
namespace Go.Proofs.Ytklkhlipecphkaa
open Go.RowKit Go.Joins Go.Maps
set_option maxRecDepth 100000
set_option linter.unusedVariables false

/-- What a slice of ops that came in is. -/
def IsOps (w : World) (a : Option Addr) (len cap : Nat) (O : Nat → Int × Int) : Prop :=
  (a = none ∧ len = 0 ∧ cap = 0) ∨
  ∃ x, a = some x ∧ len ≤ cap ∧ cap ≤ maxLen ∧ ∀ j, j < len → w.cell? (x.add (j * 2)) = some (.int .i64 (O j).1) ∧ w.cell? (x.add (j * 2 + 1)) = some (.int .i64 (O j).2) ∧ (Lit.int .i64 (O j).2).wf = true
theorem isOps_mk {H : Type} {enc : TypeId × Value → H} {w : World} {base : Nat} {spare : Nat → Bool} {held : Bool} {x : Addr} {len cap m n : Nat} {V0 V1 : Nat → Value} {D0 D1 : Nat → DataW H} {P0 P1 : Nat → List MemPlace} (h1 : len ≤ cap) (h2 : cap ≤ maxLen) (h3 : len ≤ m)
    (h : ∀ i, i < m → w.cell? (x.add (i * 2)) = some (V0 i) ∧ w.cell? (x.add (i * 2 + 1)) = some (V1 i) ∧ DataW.trod enc Try.prog w base spare held n 3 [V0 i] = some (D0 i, P0 i) ∧ DataW.trod enc Try.prog w base spare held n 3 [V1 i] = some (D1 i, P1 i)) :
    IsOps w (some x) len cap (fun j => (intOf (V0 j), intOf (V1 j))) := by
  refine .inr ⟨x, rfl, h1, h2, fun j hj => ?_⟩
  obtain ⟨c0, c1, t0, t1⟩ := h j (by omega)
  obtain ⟨a0, e0, _, _⟩ := DataW.trod_int Try.underlying3 t0
  obtain ⟨a1, e1, _, w1⟩ := DataW.trod_int Try.underlying3 t1
  simp only [List.cons.injEq, and_true] at e0 e1
  dsimp only
  rw [c0, c1, e0, e1]
  exact ⟨rfl, rfl, w1⟩

theorem RetryClocks_row (a b : Int) (oa : Option Addr) (len cap : Nat) (O : Nat → Int × Int) (x : Int) (w : World) (_ : (Lit.int .i64 a).wf = true) (_ : (Lit.int .i64 b).wf = true) (ho : IsOps w oa len cap O) (hx : (Lit.int .i64 x).wf = true) :
    Calls Try.prog 8 #[.agg #[.int .i64 a, .int .i64 b], .slice oa len cap, .int .i64 x] w fun e w' => e = .returned (.bool true) ∧ Below w.heap.size w w' := by
  have hlen : len ≤ maxLen := by
    rcases ho with ⟨_, rfl, _⟩ | ⟨_, _, h1, h2, _⟩
    · exact Nat.zero_le _
    · omega
  by_cases h80 : 80 < len
  · exact RetryClocks_long a b x oa len cap w h80 hlen
  by_cases h3 : 1 ≤ a ∧ a ≤ 1024 ∧ a ≤ b ∧ b ≤ 1024
  · obtain ⟨a', rfl⟩ : ∃ m : Nat, a = m := ⟨a.toNat, by omega⟩
    obtain ⟨b', rfl⟩ : ∃ m : Nat, b = m := ⟨b.toNat, by omega⟩
    refine RetryClocks_yes a' b' x oa len cap O w (by omega) (by omega) (by omega) (by omega) hx (fun j hj => ?_) (fun j hj => ?_)
    · rcases ho with ⟨_, rfl, _⟩ | ⟨ad, rfl, _, _, h⟩
      · omega
      · exact ⟨ad, rfl, (h j hj).1, (h j hj).2.1⟩
    · rcases ho with ⟨_, rfl, _⟩ | ⟨ad, rfl, _, _, h⟩
      · omega
      · exact (h j hj).2.2
  · exact RetryClocks_not a b x oa len cap w h80 h3
end Go.Proofs.Ytklkhlipecphkaa
