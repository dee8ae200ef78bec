/- A region that draws its order and holds calls which only make memory: walked once, in the text's order. The class of worlds: what lay below block B lies. -/
import Derived.Test.YtcojiienmmmihaaE
import Derived.Deep.QuietTactic
import Derived.BigQuiet
namespace Go.Proofs.Ytcojiienmmmihaa
open Go.RowKit Go.Joins

/-- A world in which all that lay in W0 below block B lies. -/
structure Cls (B : Nat) (W0 : World) where
  w : World
  below : Below B W0 w
  size : B ≤ w.heap.size

theorem wp_region_calm {P : Program} {id : Nat} {Q : Exit → Act → World → Prop} {a : Act} {w : World} {l : List Oper} {B : Nat} {W0 : World} (hm : P.follows .mixedOrders = true) (hB : Region.lexB .any l.toArray = true)
    (h0 : Below B W0 w) (hs : B ≤ w.heap.size)
    (h : wpQuiet P l.toArray (fun w' => ∃ x : Cls B W0, w' = x.w) (fun a' => ∀ w', (∃ x : Cls B W0, w' = x.w) → Q .normal a' w') l a) : (Code.region id l.toArray true).wp P Q a w :=
  wp_region_quiet (C := fun w' => ∃ x : Cls B W0, w' = x.w) hm hB ⟨⟨_, Below.drew h0, hs⟩, rfl⟩ (by simpa using h)

theorem calm {P : Program} {B : Nat} {W0 : World} {f : FuncId} {args : Array Value} {v : Value} {x : Cls B W0} (h : Calls P f args x.w fun e w' => e = .returned v ∧ Below x.w.heap.size x.w w') :
    Calls P f args x.w (fun e w'' => e = .returned v ∧ ∃ x' : Cls B W0, w'' = x'.w) :=
  h.mono fun _ w' ⟨he, hb⟩ => ⟨he, ⟨w', x.below.trans (hb.mono x.size), Nat.le_trans x.size hb.size⟩, rfl⟩
end Go.Proofs.Ytcojiienmmmihaa
