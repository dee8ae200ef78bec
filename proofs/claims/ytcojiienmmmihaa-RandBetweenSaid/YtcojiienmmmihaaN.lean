/- Walks: the law RandBetween. -/
import Derived.Test.YtcojiienmmmihaaL
import Derived.Test.YtcojiienmmmihaaG
namespace Go.Proofs.Ytcojiienmmmihaa
open Go.RowKit Go.Joins
set_option maxRecDepth 100000
set_option linter.unusedVariables false

/-- The two boxes lie where they were laid. -/
theorem box2_cells {s : Nat} {a b c i low high : Int} {w wr : World} (hb : Below (w.heap.size + 2) ((w.alloc (Obj.cells #[.int .u64 (s : Int), .int .i64 a, .int .i64 b, .int .i64 c] 24)).alloc (Obj.cells #[.int .i64 i, .int .i64 low, .int .i64 high] 42)) wr) : wr.cell? ⟨w.heap.size, 0, none⟩ = some (.int .u64 (s : Int)) ∧ wr.cell? ⟨w.heap.size, 1, none⟩ = some (.int .i64 a) ∧ wr.cell? ⟨w.heap.size, 2, none⟩ = some (.int .i64 b) ∧ wr.cell? ⟨w.heap.size, 3, none⟩ = some (.int .i64 c) ∧ wr.cell? ⟨w.heap.size + 1, 0, none⟩ = some (.int .i64 i) ∧ wr.cell? ⟨w.heap.size + 1, 1, none⟩ = some (.int .i64 low) ∧ wr.cell? ⟨w.heap.size + 1, 2, none⟩ = some (.int .i64 high) := by
  have e := fun o => hb.cell (p := ⟨w.heap.size, o, none⟩) (by show w.heap.size < w.heap.size + 2; omega)
  have f := fun o => hb.cell (p := ⟨w.heap.size + 1, o, none⟩) (by show w.heap.size + 1 < w.heap.size + 2; omega)
  refine ⟨?_, ?_, ?_, ?_, ?_, ?_, ?_⟩ <;> first | (rw [e]; simp [go_sem]; done) | (rw [f]; simp [go_sem]; done)

set_option maxHeartbeats 4000000 in
theorem RandBetween_walk (s : Nat) (a b c i low high V : Int) (w : World)
    (cB : ∀ w, Calls Try.prog 24 #[.agg #[.int .u64 (s : Int), .int .i64 a, .int .i64 b, .int .i64 c], .int .i64 i, .int .i64 low, .int .i64 high] w fun e w' => e = .returned (.int .i64 V) ∧ Below w.heap.size w w')
    (cR : ∀ w, Calls Try.prog 26 #[.agg #[.int .u64 (s : Int), .int .i64 a, .int .i64 b, .int .i64 c], .int .i64 i, .int .i64 low, .int .i64 high] w fun e w' => e = .returned (.int .i64 V) ∧ Below w.heap.size w w')
    (hfin : (high ≤ low ∧ V = low) ∨ (low < high ∧ low ≤ V ∧ V < high)) :
    Calls Try.prog 7 #[.agg #[.int .u64 (s : Int), .int .i64 a, .int .i64 b, .int .i64 c], .agg #[.int .i64 i, .int .i64 low, .int .i64 high]] w (Yes w) := by
  have CB := Lib.hid cB; have CR := Lib.hid cR; have HF := Lib.hid hfin
  clear cB cR hfin
  have hp := M.part_lt s a b c i
  have cpart := Lib.hid (fun w => Part_any s a b c i w)
  have crpart := Lib.hid (fun w => rPart_any s a b c i w)
  obtain ⟨p, hpp⟩ : ∃ p, p = M.part s a b c i := ⟨_, rfl⟩
  rw [← hpp] at hp cpart crpart
  clear hpp
  go_enter Try.func7, Try.ntmps7
  go_wp2_with fail
  refine (awake_any _).mono ?_
  rintro e w1 ⟨rfl, hb1⟩
  have hB1 : Below (w.heap.size + 2) ((w.alloc (Obj.cells #[.int .u64 (s : Int), .int .i64 a, .int .i64 b, .int .i64 c] 24)).alloc (Obj.cells #[.int .i64 i, .int .i64 low, .int .i64 high] 42)) w1 := hb1.mono (by simp)
  have hs1 := Below.le hB1 (by simp)
  clear hb1
  obtain ⟨k0, k1, k2, k3, k4, k5, k6⟩ := box2_cells hB1
  go_wp2_with fail
  refine (cpart.out _).mono ?_
  rintro e w2 ⟨rfl, hb2⟩
  have hB2 := after_call hB1 hs1 hb2
  have hs2 := Below.le hB2 (by simp)
  clear hb2 hB1 hs1 k0 k1 k2 k3 k4 k5 k6
  obtain ⟨k0, k1, k2, k3, k4, k5, k6⟩ := box2_cells hB2
  go_wp2_with fail
  refine (CB.out _).mono ?_
  rintro e w3 ⟨rfl, hb3⟩
  have hB3 := after_call hB2 hs2 hb3
  have hs3 := Below.le hB3 (by simp)
  clear hb3 hB2 hs2 k0 k1 k2 k3 k4 k5 k6
  go_wp2_with fail
  have hne : Nonempty (Cls (w.heap.size + 2) ((w.alloc (Obj.cells #[.int .u64 (s : Int), .int .i64 a, .int .i64 b, .int .i64 c] 24)).alloc (Obj.cells #[.int .i64 i, .int .i64 low, .int .i64 high] 42))) := ⟨⟨w3, hB3, hs3⟩⟩
  have x0 : ∀ x : Cls (w.heap.size + 2) ((w.alloc (Obj.cells #[.int .u64 (s : Int), .int .i64 a, .int .i64 b, .int .i64 c] 24)).alloc (Obj.cells #[.int .i64 i, .int .i64 low, .int .i64 high] 42)), x.w.cell? ⟨w.heap.size, 0, none⟩ = some (.int .u64 (s : Int)) := fun x => (box2_cells x.below).1
  have x1 : ∀ x : Cls (w.heap.size + 2) ((w.alloc (Obj.cells #[.int .u64 (s : Int), .int .i64 a, .int .i64 b, .int .i64 c] 24)).alloc (Obj.cells #[.int .i64 i, .int .i64 low, .int .i64 high] 42)), x.w.cell? ⟨w.heap.size, 1, none⟩ = some (.int .i64 a) := fun x => (box2_cells x.below).2.1
  have x2 : ∀ x : Cls (w.heap.size + 2) ((w.alloc (Obj.cells #[.int .u64 (s : Int), .int .i64 a, .int .i64 b, .int .i64 c] 24)).alloc (Obj.cells #[.int .i64 i, .int .i64 low, .int .i64 high] 42)), x.w.cell? ⟨w.heap.size, 2, none⟩ = some (.int .i64 b) := fun x => (box2_cells x.below).2.2.1
  have x3 : ∀ x : Cls (w.heap.size + 2) ((w.alloc (Obj.cells #[.int .u64 (s : Int), .int .i64 a, .int .i64 b, .int .i64 c] 24)).alloc (Obj.cells #[.int .i64 i, .int .i64 low, .int .i64 high] 42)), x.w.cell? ⟨w.heap.size, 3, none⟩ = some (.int .i64 c) := fun x => (box2_cells x.below).2.2.2.1
  have x4 : ∀ x : Cls (w.heap.size + 2) ((w.alloc (Obj.cells #[.int .u64 (s : Int), .int .i64 a, .int .i64 b, .int .i64 c] 24)).alloc (Obj.cells #[.int .i64 i, .int .i64 low, .int .i64 high] 42)), x.w.cell? ⟨w.heap.size + 1, 0, none⟩ = some (.int .i64 i) := fun x => (box2_cells x.below).2.2.2.2.1
  have x5 : ∀ x : Cls (w.heap.size + 2) ((w.alloc (Obj.cells #[.int .u64 (s : Int), .int .i64 a, .int .i64 b, .int .i64 c] 24)).alloc (Obj.cells #[.int .i64 i, .int .i64 low, .int .i64 high] 42)), x.w.cell? ⟨w.heap.size + 1, 1, none⟩ = some (.int .i64 low) := fun x => (box2_cells x.below).2.2.2.2.2.1
  have x6 : ∀ x : Cls (w.heap.size + 2) ((w.alloc (Obj.cells #[.int .u64 (s : Int), .int .i64 a, .int .i64 b, .int .i64 c] 24)).alloc (Obj.cells #[.int .i64 i, .int .i64 low, .int .i64 high] 42)), x.w.cell? ⟨w.heap.size + 1, 2, none⟩ = some (.int .i64 high) := fun x => (box2_cells x.below).2.2.2.2.2.2
  have q1 : decide ((p : Int) < 0) = false := by simp
  have q2 : decide ((4294967296 : Int) ≤ (p : Int)) = false := by simp; omega
  refine wp_region_calm (by kernel_rfl) (by kernel_rfl) hB3 hs3 ?_
  repeat (go_big_quiet_step (first | (go_at_call 18; exact calm (key_any s a b c _)) | (go_at_call 25; exact calm (crpart.out _)) | (go_at_call 26; exact calm (CR.out _))))
  refine wpQuiet_nil ?_
  rintro w4 ⟨x, hx⟩
  have hB4 := x.below
  rw [← hx] at hB4
  clear hx
  clear x0 x1 x2 x3 x4 x5 x6 hne q1 q2 hB3 hs3
  obtain ⟨k0, k1, k2, k3, k4, k5, k6⟩ := box2_cells hB4
  have hend : Below w.heap.size w w4 := (((Below.refl _ _).alloc (Nat.le_refl _) _).alloc (by simp) _).trans (hB4.mono (by omega))
  rcases HF.out with ⟨c1, c2⟩ | ⟨c1, c2, c3⟩
  · subst c2
    go_wp2_with fail
    go_ret
    exact ⟨rfl, hend⟩
  · have c4 : ¬ high ≤ low := by omega
    go_wp2_with fail
    go_ret
    exact ⟨rfl, hend⟩

theorem RandBetween_row (s a b c i low high : Int) (w : World) (hs : (Lit.int .u64 s).wf = true) (_ : (Lit.int .i64 a).wf = true) (_ : (Lit.int .i64 b).wf = true) (_ : (Lit.int .i64 c).wf = true) (_ : (Lit.int .i64 i).wf = true) (hl : (Lit.int .i64 low).wf = true) (hh : (Lit.int .i64 high).wf = true) :
    Calls Try.prog 7 #[.agg #[.int .u64 s, .int .i64 a, .int .i64 b, .int .i64 c], .agg #[.int .i64 i, .int .i64 low, .int .i64 high]] w fun e w' => e = .returned (.bool true) ∧ Below w.heap.size w w' := by
  obtain ⟨q, rfl, _⟩ := nat_of_u64 hs
  have b1 := bounds_i64 hl
  have b2 := bounds_i64 hh
  by_cases h : high ≤ low
  · exact RandBetween_walk q a b c i low high low w (fun w => Between_low q a b c i low high w h) (fun w => rBetween_low q a b c i low high w h) (.inl ⟨h, rfl⟩)
  · obtain ⟨R, rfl⟩ : ∃ R : Nat, high = low + R := ⟨(high - low).toNat, by omega⟩
    have hu := M.up_lt (R := R) (p := M.part q a b c i) (by omega) (M.part_lt q a b c i)
    exact RandBetween_walk q a b c i low (low + R) (low + (M.up R (M.part q a b c i) : Nat)) w (fun w => Between_up q a b c i low R w (by omega) (by omega) (by omega)) (fun w => rBetween_up q a b c i low R w (by omega) (by omega) (by omega)) (.inr ⟨by omega, by omega, by omega⟩)

end Go.Proofs.Ytcojiienmmmihaa
