/- Digits: the walks of text, minus, noughts and order, as the rows ask them. -/
import Derived.Test.YtfpmchhpejncpaaDoorU
namespace Go.Proofs.YtfpmchhpejncpaaDoor
open Go.RowKit
theorem wf64 {a : Int} (h : (Lit.int .i64 a).wf = true) : -9223372036854775808 ≤ a ∧ a ≤ 9223372036854775807 := by
  simpa [Lit.wf, IntKind.min, IntKind.max, IntKind.signed, IntKind.bits] using h
theorem Text_row (a : Int) (w : World) (h : (Lit.int .i64 a).wf = true) (ht : Tab w) : Calls Tryd.prog 3 #[.int .i64 a] w fun e w' => e = .returned (.bool true) ∧ Below w.heap.size w w' :=
  law3_any a (wf64 h).1 (wf64 h).2 w ht
theorem Minus_row (s : ByteArray) (w : World) (hs : s.size ≤ 140737488351232) (ht : Tab w) : Calls Tryd.prog 6 #[.string s] w fun e w' => e = .returned (.bool true) ∧ Below w.heap.size w w' :=
  law6_any s (by omega) w ht
theorem Order_row (s t : ByteArray) (w : World) (hs : s.size ≤ 140737488351232) (hs2 : t.size ≤ 140737488351232) (ht : Tab w) : Calls Tryd.prog 7 #[.string s, .string t] w fun e w' => e = .returned (.bool true) ∧ Below w.heap.size w w' :=
  law7_any s t (by omega) (by omega) w ht
theorem Noughts_row (s : ByteArray) (k : Int) (w : World) (hs : s.size ≤ 140737488351232) (_ : (Lit.int .i64 k).wf = true) (ht : Tab w) : Calls Tryd.prog 5 #[.string s, .int .i64 k] w fun e w' => e = .returned (.bool true) ∧ Below w.heap.size w w' :=
  law5_any s k (by omega) w ht
end Go.Proofs.YtfpmchhpejncpaaDoor
