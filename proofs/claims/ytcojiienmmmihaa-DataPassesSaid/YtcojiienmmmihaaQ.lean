/- Walks: the network of a key. -/
import Derived.Test.YtcojiienmmmihaaP
import Derived.Deep.LoopGhost
namespace Go.Proofs.Ytcojiienmmmihaa
open Go.RowKit Go.Joins
set_option maxRecDepth 100000
set_option linter.unusedVariables false

theorem Try.info66 : (Try.prog.info? 66).map (fun i => (i.zero, i.size, i.bytes)) = some (some .nilFunc, 1, 8) := by kernel_rfl

/-- h is the least number, at least 1, with 2^(2 h) not below n. -/
def HalfOf (n h : Nat) : Prop := 1 ≤ h ∧ h ≤ 8 ∧ (h = 1 ∨ 2 ^ (2 * (h - 1)) < n) ∧ n ≤ 2 ^ (2 * h)
theorem HalfOf.uniq {n h h' : Nat} (x : HalfOf n h) (y : HalfOf n h') : h = h' := by
  obtain ⟨a1, a2, a3, a4⟩ := x
  obtain ⟨b1, b2, b3, b4⟩ := y
  rcases Nat.lt_trichotomy h h' with hl | he | hl
  · have := Nat.pow_le_pow_right (n := 2) (by omega) (show 2 * h ≤ 2 * (h' - 1) by omega)
    omega
  · exact he
  · have := Nat.pow_le_pow_right (n := 2) (by omega) (show 2 * h' ≤ 2 * (h - 1) by omega)
    omega

/-- A round's closure. -/
def clo (K M' T : Nat) : Value := .func (.func 59) #[] #[.pointer (some ⟨K, 0, none⟩), .pointer (some ⟨T, 0, none⟩), .pointer (some ⟨M', 0, none⟩)]

/-- Four rounds' closures, what they caught, and half a number's bits. -/
def Net (s : Nat) (a b c : Int) (h : Nat) (v : Value) (w : World) : Prop := ∃ (g cap K M' : Nat) (T : Nat → Nat), v = .slice (some ⟨g, 0, none⟩) 4 cap ∧
  (∀ t, t < 4 → w.cell? ⟨g, t, none⟩ = some (clo K M' (T t)) ∧ w.cell? ⟨T t, 0, none⟩ = some (.int .i64 (t : Int))) ∧
  w.cell? ⟨K, 0, none⟩ = some (.int .u64 (s : Int)) ∧ w.cell? ⟨K, 1, none⟩ = some (.int .i64 a) ∧ w.cell? ⟨K, 2, none⟩ = some (.int .i64 b) ∧ w.cell? ⟨K, 3, none⟩ = some (.int .i64 c) ∧
  w.cell? ⟨M', 0, none⟩ = some (.int .u64 ((2 ^ h - 1 : Nat) : Int))
theorem Net.keep {s : Nat} {a b c : Int} {h : Nat} {v : Value} {w w' : World} (x : Net s a b c h v w) (hb : Below w.heap.size w w') : Net s a b c h v w' := by
  obtain ⟨g, cap, K, M', T, h0, h1, h2, h3, h4, h5, h6⟩ := x
  have q : ∀ {p : Addr} {u : Value}, w.cell? p = some u → w'.cell? p = some u := fun {p u} hp => (hb.cell (World.block_lt_of_cell? w p hp)).trans hp
  exact ⟨g, cap, K, M', T, h0, fun t ht => ⟨q (h1 t ht).1, q (h1 t ht).2⟩, q h2, q h3, q h4, q h5, q h6⟩

def WeavePost (s : Nat) (a b c : Int) (n : Nat) (w : World) (e : Ending) (w' : World) : Prop :=
  ∃ (h : Nat) (v : Value), e = .returned (.agg #[.int .i64 (h : Int), v]) ∧ HalfOf n h ∧ Net s a b c h v w' ∧ Below w.heap.size w w'

/-- What the loop over the rounds keeps (W: the world in which the call began). -/
def Inv (s : Nat) (a b c : Int) (h k : Nat) (W wr : World) : Prop := ∃ (v : Value) (T : Nat → Nat),
  wr.heap[W.heap.size]? = some (.cells #[.int .u64 (s : Int), .int .i64 a, .int .i64 b, .int .i64 c] 24 (0, 0)) ∧ wr.heap[W.heap.size + 1]? = some (.cells #[.int .i64 0, .slice none 0 0] 83 (0, 0)) ∧
  wr.heap[W.heap.size + 2]? = some (.cells #[.int .i64 (h : Int), v] 83 (0, 0)) ∧ wr.heap[W.heap.size + 3]? = some (.cells #[.int .u64 ((2 ^ h - 1 : Nat) : Int)] 22 (0, 0)) ∧
  wr.ownsRow (W.heap.size + 4) 66 1 v k ((List.range k).map fun t => clo W.heap.size (W.heap.size + 3) (T t)) ∧
  (∀ t, t < k → wr.heap[T t]? = some (.cells #[.int .i64 (t : Int)] 3 (0, 0)) ∧ W.heap.size + 4 ≤ T t) ∧ Below W.heap.size W wr ∧ W.heap.size + 4 ≤ wr.heap.size

theorem row_block {w : World} {base e size n q : Nat} {v : Value} {xs : List Value} (h : w.ownsRow base e size v n xs) (hq : v.ownBlock = some q) : ∃ cur, w.heap[q]? = some (.cells cur e (0, 0)) := by
  rcases h.2 with ⟨rfl, _⟩ | ⟨g, cap, cur, rfl, _, hh, _⟩
  · cases hq
  · cases hq; exact ⟨cur, hh⟩

theorem inv_step {s : Nat} {a b c : Int} {h k : Nat} {W wr w1 : World} {v v1 : Value} {T : Nat → Nat}
    (i0 : wr.heap[W.heap.size]? = some (.cells #[.int .u64 (s : Int), .int .i64 a, .int .i64 b, .int .i64 c] 24 (0, 0))) (i1 : wr.heap[W.heap.size + 1]? = some (.cells #[.int .i64 0, .slice none 0 0] 83 (0, 0)))
    (i2 : wr.heap[W.heap.size + 2]? = some (.cells #[.int .i64 (h : Int), v] 83 (0, 0))) (i3 : wr.heap[W.heap.size + 3]? = some (.cells #[.int .u64 ((2 ^ h - 1 : Nat) : Int)] 22 (0, 0)))
    (i4 : wr.ownsRow (W.heap.size + 4) 66 1 v k ((List.range k).map fun t => clo W.heap.size (W.heap.size + 3) (T t)))
    (i5 : ∀ t, t < k → wr.heap[T t]? = some (.cells #[.int .i64 (t : Int)] 3 (0, 0)) ∧ W.heap.size + 4 ≤ T t) (i6 : Below W.heap.size W wr) (i7 : W.heap.size + 4 ≤ wr.heap.size) {X : Obj}
    (hown : w1.ownsRow (W.heap.size + 4) 66 1 v1 (k + 1) (((List.range k).map fun t => clo W.heap.size (W.heap.size + 3) (T t)) ++ [clo W.heap.size (W.heap.size + 3) wr.heap.size]))
    (hg : ((wr.alloc (.cells #[.int .i64 (k : Int)] 3)).alloc X).grownBy w1 v.ownBlock) :
    Inv s a b c h (k + 1) W (w1.setCell ⟨W.heap.size + 2, 1, none⟩ v1) := by
  have hlt : ∀ q, v.ownBlock = some q → W.heap.size + 4 ≤ q ∧ q < wr.heap.size := fun q hq => i4.lt q hq
  have far : ∀ q, q < W.heap.size + 4 → w1.heap[q]? = wr.heap[q]? := fun q hq => by
    rw [hg.block q (by simp; omega) (fun e => by have := hlt q e.symm; omega), Below.heap_alloc _ _ _ (by simp; omega), Below.heap_alloc _ _ _ (by omega)]
  have hT : w1.heap[wr.heap.size]? = some (.cells #[.int .i64 (k : Int)] 3 (0, 0)) := by
    rw [hg.block _ (by simp; omega) (fun e => by have := hlt _ e.symm; omega), Below.heap_alloc _ _ _ (by simp)]
    exact heap_alloc_new _ _
  have hs := hg.size
  simp at hs
  refine ⟨v1, fun t => if t = k then wr.heap.size else T t, ?_, ?_, ?_, ?_, ?_, ?_, ?_, ?_⟩
  · rw [Below.heap_setCell _ _ _ _ (by show W.heap.size ≠ W.heap.size + 2; omega), far _ (by omega)]; exact i0
  · rw [Below.heap_setCell _ _ _ _ (by show W.heap.size + 1 ≠ W.heap.size + 2; omega), far _ (by omega)]; exact i1
  · have := block_setCell (w := w1) (g := W.heap.size + 2) (i := 1) (cs := #[.int .i64 (h : Int), v]) (t := 83) (fr := (0, 0)) (by rw [far _ (by omega)]; exact i2) v1
    simpa using this
  · rw [Below.heap_setCell _ _ _ _ (by show W.heap.size + 3 ≠ W.heap.size + 2; omega), far _ (by omega)]; exact i3
  · refine ownsRow_setCell_below (a := ⟨W.heap.size + 2, 1, none⟩) ?_ (by show W.heap.size + 2 < W.heap.size + 4; omega) v1
    have e : (List.range (k + 1)).map (fun t => clo W.heap.size (W.heap.size + 3) (if t = k then wr.heap.size else T t)) = ((List.range k).map fun t => clo W.heap.size (W.heap.size + 3) (T t)) ++ [clo W.heap.size (W.heap.size + 3) wr.heap.size] := by
      rw [List.range_succ, List.map_append]
      congr 1
      · apply List.map_congr_left
        intro t ht
        rw [if_neg (by have := List.mem_range.1 ht; omega)]
      · simp
    rw [e]; exact hown
  · intro t ht
    by_cases htk : t = k
    · subst htk
      simp only [if_true]
      exact ⟨by rw [Below.heap_setCell _ _ _ _ (by show wr.heap.size ≠ W.heap.size + 2; omega)]; exact hT, i7⟩
    · simp only [if_neg htk]
      obtain ⟨hc, hl⟩ := i5 t (by omega)
      have hb : T t < wr.heap.size := by
        rcases Nat.lt_or_ge (T t) wr.heap.size with h' | h'
        · exact h'
        · rw [Array.getElem?_eq_none h'] at hc; cases hc
      refine ⟨?_, hl⟩
      rw [Below.heap_setCell _ _ _ _ (by show T t ≠ W.heap.size + 2; omega), hg.block _ (by simp; omega) (fun e => ?_), Below.heap_alloc _ _ _ (by simp; omega), Below.heap_alloc _ _ _ hb]
      · exact hc
      · obtain ⟨cur, hcur⟩ := row_block i4 e.symm
        rw [hcur] at hc
        simp at hc
  · refine Below.setCell ?_ (by show W.heap.size ≤ W.heap.size + 2; omega) v1
    exact (((i6.alloc (by omega) _).alloc (by simp; omega) _).grown hg (by simp; omega) (fun q hq => by have := hlt q hq; omega))
  · simp [World.setCell]; omega

end Go.Proofs.Ytcojiienmmmihaa
