/- Retry: the document's clock: Find, Stop. -/
import Derived.Test.YtklkhlipecphkaaRh
import Derived.OwnWalk
namespace Go.Proofs.Ytklkhlipecphkaa
open Go.RowKit Go.Joins Go.Maps
set_option maxRecDepth 100000
set_option linter.unusedVariables false

abbrev Tm := Int × Int × Int
def tcells (t : Tm) : List Value := [.int .i64 t.1, .int .i64 t.2.1, .int .i64 t.2.2]
def lcells (L : List Tm) : List Value := L.flatMap tcells
theorem lcells_cons (t : Tm) (L : List Tm) : lcells (t :: L) = tcells t ++ lcells L := by simp [lcells]
theorem lcells_append (A B : List Tm) : lcells (A ++ B) = lcells A ++ lcells B := by simp [lcells]
theorem lcells_length (L : List Tm) : (lcells L).length = L.length * 3 := by
  induction L with
  | nil => rfl
  | cons t L ih => rw [lcells_cons, List.length_append, ih, List.length_cons]; simp [tcells]; omega
def tm (L : List Tm) (i : Nat) : Tm := L.getD i (0, 0, 0)
theorem lcells_get (L : List Tm) : ∀ i, i < L.length → (lcells L)[i * 3]? = some (.int .i64 (tm L i).1) ∧ (lcells L)[i * 3 + 1]? = some (.int .i64 (tm L i).2.1) ∧ (lcells L)[i * 3 + 2]? = some (.int .i64 (tm L i).2.2) := by
  induction L with
  | nil => intro i hi; simp at hi
  | cons t L ih =>
    intro i hi
    cases i with
    | zero => simp [lcells_cons, tcells, tm]
    | succ i =>
      have := ih i (by simpa using hi)
      have e1 : (i + 1) * 3 = 3 + i * 3 := by omega
      have e2 : (i + 1) * 3 + 1 = 3 + (i * 3 + 1) := by omega
      have e3 : (i + 1) * 3 + 2 = 3 + (i * 3 + 2) := by omega
      have h : ∀ k, (tcells t ++ lcells L)[3 + k]? = (lcells L)[k]? := fun k => by
        rw [List.getElem?_append_right (by simp [tcells])]
        congr 1
        simp [tcells]
      rw [lcells_cons, e1, Nat.add_assoc, Nat.add_assoc, h, h, h]
      simpa [tm] using this

/-- The document's clock in block B, its timers in the slice v. -/
structure Ref (N B : Nat) (v : Value) (base most now : Int) (L : List Tm) (w : World) : Prop where
  hB : N ≤ B
  box : w.heap[B]? = some (.cells #[.int .i64 base, .int .i64 most, .int .i64 now, v] 63 (0, 0))
  row : w.ownsRow N 100 3 v L.length (lcells L)
theorem Ref.slice {N B : Nat} {v : Value} {base most now : Int} {L : List Tm} {w : World} (h : Ref N B v base most now L w) :
    ∃ oa cap, v = .slice oa L.length cap ∧ ∀ i, i < L.length → ∃ g, oa = some ⟨g, 0, none⟩ ∧ w.cell? ⟨g, i * 3, none⟩ = some (.int .i64 (tm L i).1) ∧ w.cell? ⟨g, i * 3 + 1, none⟩ = some (.int .i64 (tm L i).2.1) ∧ w.cell? ⟨g, i * 3 + 2, none⟩ = some (.int .i64 (tm L i).2.2) := by
  rcases ownsRow_forms h.row with ⟨rfl, h0⟩ | ⟨g, cap, rfl⟩
  · exact ⟨none, 0, by rw [h0], fun i hi => absurd hi (by omega)⟩
  · refine ⟨some ⟨g, 0, none⟩, cap, rfl, fun i hi => ⟨g, rfl, ?_⟩⟩
    obtain ⟨h1, h2, h3⟩ := lcells_get L i hi
    have c := h.row.cellAt
    refine ⟨?_, ?_, ?_⟩
    · rw [c (i * 3) (by omega)]; exact h1
    · rw [c (i * 3 + 1) (by omega)]; exact h2
    · rw [c (i * 3 + 2) (by omega)]; exact h3
theorem Ref.c0 {N B : Nat} {v : Value} {base most now : Int} {L : List Tm} {w : World} (h : Ref N B v base most now L w) : w.cell? ⟨B, 0, none⟩ = some (.int .i64 base) := by simp [World.cell?, h.box]
theorem Ref.c1 {N B : Nat} {v : Value} {base most now : Int} {L : List Tm} {w : World} (h : Ref N B v base most now L w) : w.cell? ⟨B, 1, none⟩ = some (.int .i64 most) := by simp [World.cell?, h.box]
theorem Ref.c2 {N B : Nat} {v : Value} {base most now : Int} {L : List Tm} {w : World} (h : Ref N B v base most now L w) : w.cell? ⟨B, 2, none⟩ = some (.int .i64 now) := by simp [World.cell?, h.box]
theorem Ref.c3 {N B : Nat} {v : Value} {base most now : Int} {L : List Tm} {w : World} (h : Ref N B v base most now L w) : w.cell? ⟨B, 3, none⟩ = some v := by simp [World.cell?, h.box]
theorem Ref.fz {N B : Nat} {v : Value} {base most now : Int} {L : List Tm} {w : World} (h : Ref N B v base most now L w) (o : Nat) : w.frozen? ⟨B, o, none⟩ = false := by simp [World.frozen?, h.box]
theorem Ref.lt {N B : Nat} {v : Value} {base most now : Int} {L : List Tm} {w : World} (h : Ref N B v base most now L w) : B < w.heap.size := (Array.getElem?_eq_some_iff.1 h.box).1
theorem Ref.keeps {N B : Nat} {v : Value} {base most now : Int} {L : List Tm} {w w' : World} (h : Ref N B v base most now L w) (hk : Keeps isRef w w') : Ref N B v base most now L w' := by
  refine ⟨h.hB, hk _ _ ⟨_, _, .inl rfl⟩ h.box, h.row.1, ?_⟩
  rcases h.row.2 with hn | ⟨g, cap, cur, rfl, hb, hg, rest⟩
  · exact .inl hn
  · exact .inr ⟨g, cap, cur, rfl, hb, hk _ _ ⟨_, _, .inr (.inl rfl)⟩ hg, rest⟩

set_option maxHeartbeats 2000000 in
theorem Find_any {N B : Nat} {v : Value} {base most now : Int} {L : List Tm} {w : World} (h : Ref N B v base most now L w) (x : Int) (hl : L.length ≤ 1000) :
    Calls Try.prog 53 #[.pointer (some ⟨B, 0, none⟩), .int .i64 x] w fun e w' => ((∃ i, i < L.length ∧ (tm L i).1 = x ∧ (∀ j, j < i → (tm L j).1 ≠ x) ∧ e = .returned (.int .i64 (i : Int))) ∨ ((∀ j, j < L.length → (tm L j).1 ≠ x) ∧ e = .returned (.int .i64 (-1)))) ∧ w' = w := by
  obtain ⟨oa, cap, rfl, hc⟩ := h.slice
  have c3 := h.c3
  have HC := Lib.hid hc
  clear h hc
  obtain ⟨n, hn⟩ : ∃ n, n = L.length := ⟨_, rfl⟩
  rw [← hn] at HC hl c3 ⊢
  clear hn
  go_enter Try.func53, Try.ntmps53
  go_wp2_with fail
  go_loopw [5] (fun i wr => ∃ k : Nat, k ≤ n ∧ i = .int .i64 (k : Int) ∧ (∀ j, j < k → (tm L j).1 ≠ x) ∧ wr = w) (fun i _ => n - (intOf i).toNat)
  case atStart => exact ⟨0, Nat.zero_le _, rfl, fun j hj => absurd hj (by omega), rfl⟩
  case round =>
    obtain ⟨k, hk, rfl, hne, rfl⟩ := hrel
    have HNE := Lib.hid hne
    clear hne
    by_cases hlt : k < n
    · obtain ⟨g, rfl, x0, x1, x2⟩ := HC.out k hlt
      obtain ⟨y, hy⟩ : ∃ y, y = (tm L k).1 := ⟨_, rfl⟩
      rw [← hy] at x0
      have HY := Lib.hid hy
      clear hy x1 x2
      by_cases he : y = x
      · have e1 : (y == x) = true := by simp [he]
        have e2 : decide (y = x) = true := by simp [he]
        have HE := Lib.hid he
        clear he
        go_wp2_with fail
        go_ret
        exact ⟨.inl ⟨k, hlt, by rw [← HY.out]; exact HE.out, HNE.out, rfl⟩, rfl⟩
      · have e1 : (y == x) = false := by simp [he]
        have e2 : decide (y = x) = false := by simp [he]
        have HE := Lib.hid he
        clear he
        go_wp2_with fail
        go_roundw
        case rel =>
          refine ⟨k + 1, by omega, by go_num, fun j hj => ?_, trivial⟩
          rcases Nat.lt_or_ge j k with h | h
          · exact HNE.out j h
          · obtain rfl : j = k := by omega
            rw [← HY.out]; exact HE.out
        case measure => simp [intOf]; omega
    · have hkn : k = n := by omega
      have HKN := Lib.hid hkn
      clear hkn
      go_wp2_with fail
      go_ret
      exact ⟨.inr ⟨fun j hj => HNE.out j (by have := HKN.out; omega), rfl⟩, rfl⟩
end Go.Proofs.Ytklkhlipecphkaa
