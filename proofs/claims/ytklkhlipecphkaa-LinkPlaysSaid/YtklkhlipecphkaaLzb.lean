/- Link: the law LinkPlays, its parts. -/
import Derived.Test.YtklkhlipecphkaaLza
namespace Go.Proofs.Ytklkhlipecphkaa
open Go.RowKit Go.Joins Go.Maps
set_option maxRecDepth 100000
set_option linter.unusedVariables false

theorem step_any {w0 : World} {N B M C : Nat} {nodes most : Int} {K : Nat} {A : List Ab} {w : World} (h : LX w0 N B M C nodes most K A w) (hK : K ≤ 900) (h1 : 0 < nodes) (h2 : nodes ≤ 65) (hm : most ≤ 64) (o : OpB) (wf : (Lit.int .i64 o.f).wf = true) (wt : (Lit.int .i64 o.t).wf = true) (wi : (Lit.int .i64 o.i).wf = true)
    (hby : IsBytes w0 o.ob o.lb o.cb o.zs) (hlb : o.lb ≤ 300) :
    Calls Try.prog 39 #[.pointer (some ⟨B, 0, none⟩), .pointer (some ⟨C, 0, none⟩), opAgg o] w (StepPost w0 N B M C nodes most K w) := by
  by_cases k1 : o.k = 1
  · exact step_send h hK h1 h2 hm o hby hlb k1
  by_cases k2 : o.k = 2
  · exact step_take h hK h1 h2 hm o wf wt wi k2
  by_cases k3 : o.k = 3
  · exact step_drop h hK h1 h2 hm o wf wt wi k3
  by_cases k4 : o.k = 4
  · exact step_double h hK h1 h2 hm o wf wt wi k4
  by_cases k5 : o.k = 5
  · exact step_flip h hK h1 h2 hm o wf wt wi k5
  by_cases k6 : o.k = 6
  · exact step_next h hK h1 h2 hm o wf wt wi k6
  exact step_else h o k1 k2 k3 k4 k5 k6
theorem lxWaits {w0 : World} {N B M C : Nat} {nodes most : Int} {K : Nat} {A : List Ab} {w : World} (h : LX w0 N B M C nodes most K A w) (h1 : 0 < nodes) {a b : Int} (wa : (Lit.int .i64 a).wf = true) (wb : (Lit.int .i64 b).wf = true) :
    Calls Try.prog 19 #[.pointer (some ⟨B, 0, none⟩), .int .i64 a, .int .i64 b] w fun e w' => e = .returned (.int .i64 (nw A a b)) ∧ w' = w := by
  obtain ⟨⟨f, n, va, ps, rs, hls, ea, eb⟩, hl⟩ := h
  have := pWaits_any hls.p h1 wa wb
  rw [ea] at this; exact this
theorem lxWaitsR {w0 : World} {N B M C : Nat} {nodes most : Int} {K : Nat} {A : List Ab} {w : World} (h : LX w0 N B M C nodes most K A w) (hK : K ≤ 1000) (a b : Int) :
    Calls Try.prog 40 #[.pointer (some ⟨C, 0, none⟩), .int .i64 a, .int .i64 b] w fun e w' => e = .returned (.int .i64 (nw A a b)) ∧ w' = w := by
  obtain ⟨⟨f, n, va, ps, rs, hls, ea, eb⟩, hl⟩ := h
  have := rWaits_any hls.r a b (by rw [← eb, abs_len] at hl; omega)
  rw [eb] at this; exact this
theorem lxBytes {w0 : World} {N B M C : Nat} {nodes most : Int} {K : Nat} {A : List Ab} {w : World} (h : LX w0 N B M C nodes most K A w) (hK : K ≤ 1000) (h1 : 0 < nodes) (h2 : nodes ≤ 65) :
    Calls Try.prog 41 #[.pointer (some ⟨B, 0, none⟩)] w fun e w' => e = .returned (.int .i64 (sumA A)) ∧ Below w.heap.size w w' := by
  obtain ⟨⟨f, n, va, ps, rs, hls, ea, eb⟩, hl⟩ := h
  have := pBytes_any hls.p h1 h2 (by rw [← ea, abs_len] at hl; omega)
  rw [ea] at this; exact this
theorem lxBytesR {w0 : World} {N B M C : Nat} {nodes most : Int} {K : Nat} {A : List Ab} {w : World} (h : LX w0 N B M C nodes most K A w) (hK : K ≤ 1000) :
    Calls Try.prog 42 #[.pointer (some ⟨C, 0, none⟩)] w fun e w' => e = .returned (.int .i64 (sumA A)) ∧ w' = w := by
  obtain ⟨⟨f, n, va, ps, rs, hls, ea, eb⟩, hl⟩ := h
  have := rBytes_any hls.r (by rw [← eb, abs_len] at hl; omega) (rs_facts hls.p (eb.trans ea.symm)).1
  rw [eb] at this; exact this
theorem lNew_no (nodes most : Int) (w : World) (h : ¬ (1 ≤ nodes ∧ nodes ≤ 65 ∧ 1 ≤ most ∧ most ≤ 64)) :
    Calls Try.prog 17 #[.int .i64 nodes, .int .i64 most] w fun e w' => e = .returned (.tuple #[.pointer none, .int .i64 2]) ∧ w' = w := by
  by_cases h1 : nodes < 1
  · have d1 : decide (nodes < 1) = true := decide_eq_true h1
    go_enter Try.func17, Try.ntmps17
    go_wp2_with fail
    go_ret2
    exact ⟨rfl, rfl⟩
  have d1 : decide (nodes < 1) = false := decide_eq_false h1
  by_cases h2 : 65 < nodes
  · have d2 : decide (65 < nodes) = true := decide_eq_true h2
    go_enter Try.func17, Try.ntmps17
    go_wp2_with fail
    go_ret2
    exact ⟨rfl, rfl⟩
  have d2 : decide (65 < nodes) = false := decide_eq_false h2
  by_cases h3 : most < 1
  · have d3 : decide (most < 1) = true := decide_eq_true h3
    go_enter Try.func17, Try.ntmps17
    go_wp2_with fail
    go_ret2
    exact ⟨rfl, rfl⟩
  have d3 : decide (most < 1) = false := decide_eq_false h3
  have d4 : decide (64 < most) = true := decide_eq_true (by omega)
  go_enter Try.func17, Try.ntmps17
  go_wp2_with fail
  go_ret2
  exact ⟨rfl, rfl⟩
/-- The start of a play. -/
theorem lx_start {w0 w : World} {B M : Nat} {nodes most : Int} (hb : Below w0.heap.size w0 w) {N : Nat} (hN : w0.heap.size ≤ N) (hN2 : N ≤ w.heap.size) (hm : 0 ≤ most) (h : Net N B M nodes most (fun _ => none) 0 w) :
    LX w0 N B M w.heap.size nodes most 0 [] (w.alloc (.cells #[.int .i64 nodes, .int .i64 most, .slice none 0 0] 77)) := by
  have hal : Below w.heap.size w (w.alloc (.cells #[.int .i64 nodes, .int .i64 most, .slice none 0 0] 77)) := (Below.refl _ _).alloc (Nat.le_refl _) _
  refine ⟨⟨fun _ => none, 0, .slice none 0 0, [], [], ⟨Nat.le_refl _, ?_, ?_, fun m hm => (by simp at hm), hb.trans (hal.mono hb.size), hN⟩, rfl, rfl⟩, Nat.le_refl _⟩
  · exact { net := h.below hal, row := fun a b kl _ _ => World.ownsRow_nil _ _ _ _, dom := fun kl v e => (by cases e), rap := fun kl kl' k _ e => (by simp [blk, Value.ownBlock] at e), full := fun a b => hm, ok := fun m hm => (by simp at hm), msg := fun m hm => (by simp at hm), len := fun m hm => (by simp at hm), ap := List.Pairwise.nil }
  · exact ⟨hN2, (MapKept.heap_alloc w _).1, World.ownsRow_nil _ _ _ _, fun m hm => by simp at hm⟩
/-- The op's whole numbers are such. -/
def OpsWf (len : Nat) (O : Nat → OpB) : Prop := ∀ j, j < len → (Lit.int .i64 (O j).f).wf = true ∧ (Lit.int .i64 (O j).t).wf = true ∧ (Lit.int .i64 (O j).i).wf = true
end Go.Proofs.Ytklkhlipecphkaa
