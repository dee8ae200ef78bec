/- Walks: the chapter's examples, and the law RandWords. -/
import Derived.Test.YtcojiienmmmihaaE
namespace Go.Proofs.Ytcojiienmmmihaa
open Go.RowKit Go.Joins
set_option maxRecDepth 100000

def Yes (w : World) (e : Ending) (w' : World) : Prop := e = .returned (.bool true) ∧ Below w.heap.size w w'

theorem word_awake' : (!(((M.word 1 0 0 0 0 : Nat) : Int) == 0)) = true := by
  have := M.word_awake
  simp; omega

/-- Behind a call: what was laid ahead of it lies. -/
theorem after_call {w w1 w2 : World} {B : Nat} (h : Below B w w1) (hB : B ≤ w1.heap.size) (hb : Below w1.heap.size w1 w2) : Below B w w2 := h.trans (hb.mono hB)
theorem Below.le {B : Nat} {w w1 : World} (h : Below B w w1) (hB : B ≤ w.heap.size) : B ≤ w1.heap.size := Nat.le_trans hB h.size

set_option maxHeartbeats 1000000 in
theorem awake_any (w : World) : Calls Try.prog 15 #[] w (Yes w) := by
  have hw0 := Lib.hid word_awake'
  go_enter Try.func15, Try.ntmps15
  go_wp2_with fail
  refine (Perm_some 1 0 0 0 3 _ (by omega) (by omega)).mono ?_
  rintro e w1 ⟨g, cap, rfl, hown, hb1⟩
  clear hown
  have hB1 : Below (w.heap.size + 1) (w.alloc (Obj.cells #[.int .u64 ((1 : Nat) : Int), .int .i64 0, .int .i64 0, .int .i64 0] 24)) w1 := hb1.mono (by simp)
  have hs1 := Below.le hB1 (by simp)
  clear hb1
  obtain ⟨k0, k1, k2, k3⟩ := key_cells hB1
  go_wp2_with fail
  refine (Word_any 1 0 0 0 0 _).mono ?_
  rintro e w2 ⟨rfl, hb2⟩
  have hB2 := after_call hB1 hs1 hb2
  have hs2 := Below.le hB2 (by simp)
  clear k0 k1 k2 k3 hb2
  go_wp2_with fail
  refine (rWord_any 1 0 0 0 0 _).mono ?_
  rintro e w3 ⟨rfl, hb3⟩
  have hB3 := after_call hB2 hs2 hb3
  have hs3 := Below.le hB3 (by simp)
  clear hb3
  obtain ⟨k0, k1, k2, k3⟩ := key_cells hB3
  go_wp2_with fail
  refine (Word_any 1 0 0 0 0 _).mono ?_
  rintro e w4 ⟨rfl, hb4⟩
  have hB4 := after_call hB3 hs3 hb4
  have hw := hw0.out
  clear k0 k1 k2 k3 hb4 hB1 hB2 hB3 hs1 hs2 hs3
  go_wp2_with fail
  go_ret
  exact ⟨congrArg (fun b => Ending.returned (.bool b)) hw0.out, ((Below.refl _ _).alloc (Nat.le_refl _) _).trans (hB4.mono (by omega))⟩

set_option maxHeartbeats 2000000 in
theorem RandWords_walk (s : Nat) (a b c i : Int) (w : World) : Calls Try.prog 3 #[.agg #[.int .u64 (s : Int), .int .i64 a, .int .i64 b, .int .i64 c], .int .i64 i] w (Yes w) := by
  go_enter Try.func3, Try.ntmps3
  go_wp2_with fail
  refine (awake_any _).mono ?_
  rintro e w1 ⟨rfl, hb1⟩
  have hB1 : Below (w.heap.size + 1) (w.alloc (Obj.cells #[.int .u64 (s : Int), .int .i64 a, .int .i64 b, .int .i64 c] 24)) w1 := hb1.mono (by simp)
  have hs1 := Below.le hB1 (by simp)
  clear hb1
  obtain ⟨k0, k1, k2, k3⟩ := key_cells hB1
  go_wp2_with fail
  go_region_with (first
    | (go_at_call 16; refine (Word_any s a b c i _).mono ?_; rintro e w2 ⟨rfl, hb2⟩; have hB2 := after_call (Below.drew hB1) hs1 hb2; have hs2 := Below.le hB2 (by simp); obtain ⟨m0, m1, m2, m3⟩ := key_cells hB2)
    | (go_at_call 18; refine (key_any s a b c _).mono ?_; rintro e w3 ⟨rfl, hb3⟩; have hB3 := after_call hB2 hs2 hb3; have hs3 := Below.le hB3 (by simp))
    | (go_at_call 17; refine (rWord_any s a b c i _).mono ?_; rintro e w4 ⟨rfl, hb4⟩; have hB4 := after_call hB3 hs3 hb4))
  all_goals
    go_wp2_with fail
    go_ret
    exact ⟨rfl, ((Below.refl _ _).alloc (Nat.le_refl _) _).trans (hB4.mono (by omega))⟩

end Go.Proofs.Ytcojiienmmmihaa
