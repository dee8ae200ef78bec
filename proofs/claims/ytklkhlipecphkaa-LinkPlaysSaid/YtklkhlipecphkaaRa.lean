/- Retry: what a clock is in memory; its timers as a function of their names. -/
import Derived.Test.YtklkhlipecphkaaProg
import Derived.WalkKit
import Derived.WalkSpells
import Derived.WalkSmall
import Derived.Below
import Derived.Lib.Hide
import Derived.Lib.SmallJoins
import Derived.Maps.OwnOps
import Derived.Maps.OwnSet
import Derived.Deep.RegionHeld
import Derived.BigRegion
namespace Go.Proofs.Ytklkhlipecphkaa
open Go.RowKit Go.Joins Go.Maps
set_option maxRecDepth 100000
set_option linter.unusedVariables false

def tDat (p : Int × Int) : DataW Unit := .agg [.lit (.int .i64 p.1), .lit (.int .i64 p.2)]
def tVal (p : Int × Int) : Value := .agg #[.int .i64 p.1, .int .i64 p.2]
theorem tVal_inj {p q : Int × Int} (h : tVal p = tVal q) : p = q := by
  simp [tVal] at h
  exact Prod.ext h.1 h.2
open Classical in
/-- How a timer reads. -/
noncomputable def tElem (v : Value) : Option (DataW Unit × List MemPlace) := if h : ∃ p, v = tVal p then some (tDat h.choose, []) else none
theorem tElem_mk (p : Int × Int) : tElem (tVal p) = some (tDat p, []) := by
  have h : ∃ q, tVal p = tVal q := ⟨p, rfl⟩
  unfold tElem
  rw [dif_pos h, ← tVal_inj h.choose_spec]
theorem tElem_inv {v : Value} {z : DataW Unit × List MemPlace} (h : tElem v = some z) : ∃ p, v = tVal p ∧ z = (tDat p, []) := by
  unfold tElem at h
  split at h
  · rename_i hp
    cases h
    exact ⟨hp.choose, hp.choose_spec, rfl⟩
  · cases h
theorem tDat_inj {p q : Int × Int} (h : tDat p = tDat q) : p = q := by
  simp [tDat] at h
  exact Prod.ext h.1 h.2

/-- The map reads as the function f. -/
def View (D : DataW Unit) (f : Int → Option (Int × Int)) : Prop :=
  ∀ x, (Lit.int .i64 x).wf = true → D.atKey (.int .i64 x) (tDat (0, 0)) = tDat ((f x).getD (0, 0)) ∧ Maps.has D (.int .i64 x) = (f x).isSome

def upd (f : Int → Option (Int × Int)) (x : Int) (p : Option (Int × Int)) : Int → Option (Int × Int) := fun y => if y = x then p else f y
theorem upd_same (f : Int → Option (Int × Int)) (x : Int) (p : Option (Int × Int)) : upd f x p x = p := by simp [upd]
theorem upd_other (f : Int → Option (Int × Int)) {x y : Int} (p : Option (Int × Int)) (h : y ≠ x) : upd f x p y = f y := by simp [upd, h]

theorem view_empty : View (.map []) (fun _ => none) := fun x _ => ⟨rfl, rfl⟩
theorem View.put {D : DataW Unit} {f : Int → Option (Int × Int)} (h : View D f) (hm : IsMap D) {x : Int} (hk : WideAt.IsKeyLit (.int .i64 x)) (p : Int × Int) : View (D.put (.int .i64 x) (tDat p)) (upd f x (some p)) := fun y hy => by
  by_cases e : y = x
  · subst e
    rw [upd_same, atKey_put_same hm hk, has_put_same hm hk]
    exact ⟨rfl, rfl⟩
  · have hne : (Lit.int .i64 y) ≠ (Lit.int .i64 x) := fun h => e (by cases h; rfl)
    rw [upd_other f _ e, atKey_put_other hne, has_put_other hne]
    exact h y hy
theorem View.del {D : DataW Unit} {f : Int → Option (Int × Int)} (h : View D f) {x : Int} : View (D.del (.int .i64 x)) (upd f x none) := fun y hy => by
  by_cases e : y = x
  · subst e
    rw [upd_same, atKey_del_same, has_del_same]
    exact ⟨rfl, rfl⟩
  · have hne : (Lit.int .i64 y) ≠ (Lit.int .i64 x) := fun h => e (by cases h; rfl)
    rw [upd_other f _ e, atKey_del_other hne, has_del_other hne]
    exact h y hy

theorem law : Keyed Try.prog 3 := int_keyed Try.underlying3
theorem zeroT (w : World) : (zeroValue 97).run Try.prog w = .ok (tVal (0, 0)) w := by kernel_rfl

/-- A map of timers. -/
def World.timers (w : World) (b n : Nat) (f : Int → Option (Int × Int)) : Prop := ∃ D, w.ownsMap Try.prog 3 tElem b n D ∧ View D f
theorem timers_made (w : World) : World.timers (w.alloc (.map #[] 0)) w.heap.size 0 (fun _ => none) := ⟨_, World.ownsMap_made _ _ _ _, view_empty⟩
theorem timers_look {w : World} {b n : Nat} {f : Int → Option (Int × Int)} (h : World.timers w b n f) {x : Int} (hx : (Lit.int .i64 x).wf = true) :
    (Instr.lookup 68 (.map (some b)) (.int .i64 x) true).run Try.prog w = .ok (.tuple #[tVal ((f x).getD (0, 0)), .bool (f x).isSome]) w := by
  obtain ⟨D, hown, hv⟩ := h
  obtain ⟨v, ps, hrun, hR⟩ := hown.look_ok law Try.underlying68 (zeroT w) (tElem_mk (0, 0)) (keyOf_int_mk Try.underlying3 hx)
  obtain ⟨p, rfl, hp⟩ := tElem_inv hR
  obtain ⟨h1, h2⟩ := hv x hx
  have : p = (f x).getD (0, 0) := by
    apply tDat_inj
    rw [← h1]
    simp only [Prod.mk.injEq] at hp
    exact hp.1.symm
  rw [← this, ← h2]
  exact hrun
theorem timers_look1 {w : World} {b n : Nat} {f : Int → Option (Int × Int)} (h : World.timers w b n f) {x : Int} (hx : (Lit.int .i64 x).wf = true) :
    (Instr.lookup 68 (.map (some b)) (.int .i64 x) false).run Try.prog w = .ok (tVal ((f x).getD (0, 0))) w := by
  obtain ⟨D, hown, hv⟩ := h
  obtain ⟨v, ps, hrun, hR⟩ := hown.lookup law Try.underlying68 (zeroT w) (tElem_mk (0, 0)) (keyOf_int_mk Try.underlying3 hx)
  obtain ⟨p, rfl, hp⟩ := tElem_inv hR
  obtain ⟨h1, h2⟩ := hv x hx
  have : p = (f x).getD (0, 0) := by
    apply tDat_inj
    rw [← h1]
    simp only [Prod.mk.injEq] at hp
    exact hp.1.symm
  rw [← this]
  exact hrun
theorem timers_put {w : World} {b n : Nat} {f : Int → Option (Int × Int)} (h : World.timers w b n f) (hn : n < maxLen) {x : Int} (hx : (Lit.int .i64 x).wf = true) (p : Int × Int) :
    ∃ w', (Instr.mapUpdate 68 (.map (some b)) (.int .i64 x) (tVal p)).run Try.prog w = .ok () w' ∧ World.timers w' b (n + 1) (upd f x (some p)) ∧ w.grownBy w' (some b) := by
  obtain ⟨D, hown, hv⟩ := h
  obtain ⟨w', hrun, hown', hg⟩ := hown.update law Try.underlying68 hn (keyOf_int_mk Try.underlying3 hx) (tElem_mk p)
  exact ⟨w', hrun, ⟨_, hown', hv.put hown.isMap trivial p⟩, hg⟩
theorem timers_drop {w : World} {b n : Nat} {f : Int → Option (Int × Int)} (h : World.timers w b n f) {x : Int} (hx : (Lit.int .i64 x).wf = true) (ty : TypeId) :
    ∃ w', (Builtin.delete_ #[68, 3] ty #[.map (some b), .int .i64 x]).run Try.prog w = .ok (.tuple #[]) w' ∧ World.timers w' b n (upd f x none) ∧ w.grownBy w' (some b) := by
  obtain ⟨D, hown, hv⟩ := h
  obtain ⟨w', hrun, hown', hg⟩ := hown.drop law Try.underlying68 (keyOf_int_mk Try.underlying3 hx) ty
  exact ⟨w', hrun, ⟨_, hown', hv.del⟩, hg.grown⟩
theorem timers_kept {w w' : World} {b n : Nat} {f : Int → Option (Int × Int)} {row : Option Nat} (h : World.timers w b n f) (hg : w.grownBy w' row) (hne : some b ≠ row) : World.timers w' b n f := by
  obtain ⟨D, hown, hv⟩ := h
  exact ⟨D, hown.kept hg hne, hv⟩
theorem timers_lt {w : World} {b n : Nat} {f : Int → Option (Int × Int)} (h : World.timers w b n f) : b < w.heap.size := by
  obtain ⟨D, hown, hv⟩ := h
  exact hown.lt

/-- A clock in block B, with its timers in block M; both lie from block N on. -/
structure Clk (N B M : Nat) (base most now : Int) (f : Int → Option (Int × Int)) (n : Nat) (w : World) : Prop where
  hB : N ≤ B
  hM : N ≤ M
  ne : B ≠ M
  box : w.heap[B]? = some (.cells #[.int .i64 base, .int .i64 most, .int .i64 now, .map (some M)] 70 (0, 0))
  map : World.timers w M n f
end Go.Proofs.Ytklkhlipecphkaa
