/- Link: the ops of LinkPlays, opened; the row's walk. -/
import Derived.Test.YtklkhlipecphkaaLzc
import Derived.Deep.SlicePairs
import Derived.ChangeSlices
namespace Go.Proofs.Ytklkhlipecphkaa
open Go.RowKit Go.Joins Go.Maps Go.ChangeShapes Go.WideShapes Go.Deep
set_option maxRecDepth 100000
set_option linter.unusedVariables false

/-- The ops that came in, and that their numbers are such. -/
def IsOpBsW (w : World) (a : Option Addr) (len cap : Nat) (O : Nat → OpB) : Prop := IsOpBs w a len cap O ∧ OpsWf len O
theorem opBsW_mk {H : Type} {enc : TypeId × Value → H} {w : World} {base fuel : Nat} {held : Bool} {a : Option Addr} {len cap : Nat} {y : DataW H × List MemPlace} (h : DataW.trod enc Try.prog w base (fun _ => true) held fuel 72 [.slice a len cap] = some y) :
    ∃ O, IsOpBsW w a len cap O := by
  have d0 : OpB := ⟨0, 0, 0, 0, 0, none, 0, 0, []⟩
  rcases open_slice Try.underlying72 h with ⟨hcs, _⟩ | ⟨x, l, c, m, n, D, Pl, hcs, _, hl, hm, hmm, _, hel⟩
  · simp at hcs
    obtain ⟨rfl, rfl, rfl⟩ := hcs
    exact ⟨fun _ => d0, ⟨Nat.zero_le _, fun h => absurd h (by omega)⟩, fun j hj => absurd hj (by omega)⟩
  · simp at hcs
    obtain ⟨rfl, rfl, rfl⟩ := hcs
    simp at hmm
    subst hmm
    have c6 : Try.prog.cellsOf 79 = 6 := by kernel_rfl
    have k3 : Try.prog.cellsOf 3 = 1 := by kernel_rfl
    have k34 : Try.prog.cellsOf 34 = 1 := by kernel_rfl
    have each : ∀ j, j < len → ∃ o, IsOp w x j o ∧ (Lit.int .i64 o.f).wf = true ∧ (Lit.int .i64 o.t).wf = true ∧ (Lit.int .i64 o.i).wf = true := by
      intro j hj
      obtain ⟨cs', h1, h2⟩ := hel j (by omega)
      rw [c6] at h1
      obtain ⟨_, hlen, hcell⟩ := World.cells?_some h1
      obtain ⟨xs, k, hk, hxy, _, hxl, hf⟩ := DataW.trod_struct Try.underlying79 h2
      match xs, hxl, cs', hlen with
      | [y0, y1, y2, y3, y4, y5], _, [v0, v1, v2, v3, v4, v5], _ =>
        have g0 := hf 0 _ rfl
        have g1 := hf 1 _ rfl
        have g2 := hf 2 _ rfl
        have g3 := hf 3 _ rfl
        have g4 := hf 4 _ rfl
        have g5 := hf 5 _ rfl
        simp [k3, k34] at g0 g1 g2 g3 g4 g5
        obtain ⟨a0, e0, _, w0⟩ := DataW.trod_int Try.underlying3 g0
        obtain ⟨a1, e1, _, w1⟩ := DataW.trod_int Try.underlying3 g1
        obtain ⟨a2, e2, _, w2⟩ := DataW.trod_int Try.underlying3 g2
        obtain ⟨a3, e3, _, w3⟩ := DataW.trod_int Try.underlying3 g3
        obtain ⟨a4, e4, _, w4⟩ := DataW.trod_int Try.underlying3 g4
        obtain ⟨oa, lb, cb, zs, e5, hby⟩ := isBytes_mk g5
        simp only [List.cons.injEq, and_true] at e0 e1 e2 e3 e4
        subst e0 e1 e2 e3 e4 e5
        have f0 := hcell 0 (by omega)
        have f1 := hcell 1 (by omega)
        have f2 := hcell 2 (by omega)
        have f3 := hcell 3 (by omega)
        have f4 := hcell 4 (by omega)
        have f5 := hcell 5 (by omega)
        rw [add_add] at f0 f1 f2 f3 f4 f5
        rw [add_field _ _ _ (by decide)] at f1 f2 f3 f4 f5
        exact ⟨⟨a0, a1, a2, a3, a4, oa, lb, cb, zs⟩, ⟨by simpa using f0, by simpa using f1, by simpa using f2, by simpa using f3, by simpa using f4, by simpa using f5, hby, hby.le⟩, w1, w2, w3⟩
    have : Nonempty OpB := ⟨d0⟩
    obtain ⟨O, hO⟩ : ∃ O : Nat → OpB, ∀ j, j < len → IsOp w x j (O j) ∧ (Lit.int .i64 (O j).f).wf = true ∧ (Lit.int .i64 (O j).t).wf = true ∧ (Lit.int .i64 (O j).i).wf = true := by
      classical
      refine ⟨fun j => if h : j < len then (each j h).choose else d0, fun j hj => ?_⟩
      simp only [dif_pos hj]
      exact (each j hj).choose_spec
    exact ⟨O, ⟨by omega, fun _ => ⟨x, rfl, fun j hj => (hO j hj).1⟩⟩, fun j hj => (hO j hj).2⟩

theorem LinkPlays_row (nodes most : Int) (oa : Option Addr) (len cap : Nat) (O : Nat → OpB) (w : World) (_ : (Lit.int .i64 nodes).wf = true) (_ : (Lit.int .i64 most).wf = true) (hO : IsOpBsW w oa len cap O) : Calls Try.prog 10 #[.int .i64 nodes, .int .i64 most, .slice oa len cap] w fun e w' => e = .returned (.bool true) ∧ Below w.heap.size w w' := by
  by_cases h : 100 < len
  · exact LinkPlays_long nodes most oa len cap w h
  by_cases hb : 1 ≤ nodes ∧ nodes ≤ 65 ∧ 1 ≤ most ∧ most ≤ 64
  · exact LinkPlays_main nodes most oa len cap O w (by omega) hO.1 hO.2 hb.1 hb.2.1 hb.2.2.1 hb.2.2.2
  · exact LinkPlays_args nodes most oa len cap O w (by omega) hO.1 hb
end Go.Proofs.Ytklkhlipecphkaa
