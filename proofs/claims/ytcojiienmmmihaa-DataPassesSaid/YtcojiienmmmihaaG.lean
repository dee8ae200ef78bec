/- The walks of the laws, at arguments as the rows hand them. -/
import Derived.Test.YtcojiienmmmihaaF
import Derived.OpenShut
namespace Go.Proofs.Ytcojiienmmmihaa
open Go.RowKit Go.Joins

theorem nat_of_u64 {s : Int} (h : (Lit.int .u64 s).wf = true) : ∃ n : Nat, s = n ∧ n < 18446744073709551616 := by
  have := bounds_u64 h
  exact ⟨s.toNat, by omega, by omega⟩

theorem RandWords_row (s a b c i : Int) (w : World) (hs : (Lit.int .u64 s).wf = true) (_ : (Lit.int .i64 a).wf = true) (_ : (Lit.int .i64 b).wf = true) (_ : (Lit.int .i64 c).wf = true) (_ : (Lit.int .i64 i).wf = true) :
    Calls Try.prog 3 #[.agg #[.int .u64 s, .int .i64 a, .int .i64 b, .int .i64 c], .int .i64 i] w fun e w' => e = .returned (.bool true) ∧ Below w.heap.size w w' := by
  obtain ⟨n, rfl, _⟩ := nat_of_u64 hs
  exact RandWords_walk n a b c i w
end Go.Proofs.Ytcojiienmmmihaa
