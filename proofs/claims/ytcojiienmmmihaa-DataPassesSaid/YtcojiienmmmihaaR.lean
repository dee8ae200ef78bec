/- Walks: the network of a key is made. -/
import Derived.Test.YtcojiienmmmihaaQ
namespace Go.Proofs.Ytcojiienmmmihaa
open Go.RowKit Go.Joins
set_option maxRecDepth 100000
set_option linter.unusedVariables false

theorem pow_le_16 {q : Nat} (h : q ≤ 8) : 2 ^ (2 * q) ≤ 65536 := by
  have := Nat.pow_le_pow_right (n := 2) (by omega) (show 2 * q ≤ 16 by omega)
  simpa using this
theorem wrap_pow {q : Nat} (h : q ≤ 8) : wrap64 ((2 : Int) ^ (2 * q)) = ((2 ^ (2 * q) : Nat) : Int) := by
  have h1 := pow_le_16 h
  have e : ((2 : Int) ^ (2 * q)) = ((2 ^ (2 * q) : Nat) : Int) := by simp
  rw [e]
  generalize 2 ^ (2 * q) = z at *
  unfold wrap64; omega
theorem ge_pow8 {n : Nat} (h1 : n ≤ 65536) {q : Nat} (hq : q ≤ 8) (h : 2 ^ (2 * q) < n) : q + 1 ≤ 8 := by
  rcases Nat.lt_or_ge q 8 with h' | h'
  · omega
  · have : q = 8 := by omega
    subst this
    simp at h; omega

theorem wrap_mask {q : Nat} (h : q ≤ 8) : IntKind.u64.wrap (IntKind.u64.wrap ((2 : Int) ^ q) - 1) = ((2 ^ q - 1 : Nat) : Int) := by
  have h1 := Nat.pow_le_pow_right (n := 2) (by omega) h
  have h2 := Nat.two_pow_pos q
  have e : ((2 : Int) ^ q) = ((2 ^ q : Nat) : Int) := by simp
  rw [e, IntKind.wrap_u64, IntKind.wrap_u64]
  generalize 2 ^ q = z at *
  omega

theorem inv_start {s : Nat} {a b c : Int} {q : Nat} {w : World} : Inv s a b c q 0 w ((((w.alloc (Obj.cells #[.int .u64 (s : Int), .int .i64 a, .int .i64 b, .int .i64 c] 24)).alloc (Obj.cells #[.int .i64 0, .slice none 0 0] 83)).alloc (Obj.cells #[.int .i64 (q : Int), .slice none 0 0] 83)).alloc (Obj.cells #[.int .u64 ((2 ^ q - 1 : Nat) : Int)] 22)) := by
  refine ⟨.slice none 0 0, fun _ => 0, ?_, ?_, ?_, ?_, World.ownsRow_nil _ _ _ _, fun t ht => by omega, ?_, by simp⟩
  · rw [Below.heap_alloc _ _ _ (by simp; omega), Below.heap_alloc _ _ _ (by simp; omega), Below.heap_alloc _ _ _ (by simp)]; exact heap_alloc_new _ _
  · rw [Below.heap_alloc _ _ _ (by simp), Below.heap_alloc _ _ _ (by simp)]
    have := heap_alloc_new (w.alloc (Obj.cells #[.int .u64 (s : Int), .int .i64 a, .int .i64 b, .int .i64 c] 24)) (Obj.cells #[.int .i64 0, .slice none 0 0] 83)
    simpa using this
  · rw [Below.heap_alloc _ _ _ (by simp)]
    have := heap_alloc_new ((w.alloc (Obj.cells #[.int .u64 (s : Int), .int .i64 a, .int .i64 b, .int .i64 c] 24)).alloc (Obj.cells #[.int .i64 0, .slice none 0 0] 83)) (Obj.cells #[.int .i64 (q : Int), .slice none 0 0] 83)
    simpa using this
  · have := heap_alloc_new (((w.alloc (Obj.cells #[.int .u64 (s : Int), .int .i64 a, .int .i64 b, .int .i64 c] 24)).alloc (Obj.cells #[.int .i64 0, .slice none 0 0] 83)).alloc (Obj.cells #[.int .i64 (q : Int), .slice none 0 0] 83)) (Obj.cells #[.int .u64 ((2 ^ q - 1 : Nat) : Int)] 22)
    simpa using this
  · exact ((((Below.refl _ _).alloc (Nat.le_refl _) _).alloc (by simp) _).alloc (by simp; omega) _).alloc (by simp; omega) _

theorem inv_cell {h k : Nat} {W wr w1 : World} {v : Value} {xs : List Value} {O X : Obj} (i2 : wr.heap[W.heap.size + 2]? = some (.cells #[.int .i64 (h : Int), v] 83 (0, 0)))
    (i4 : wr.ownsRow (W.heap.size + 4) 66 1 v k xs) (i7 : W.heap.size + 4 ≤ wr.heap.size) (hg : ((wr.alloc O).alloc X).grownBy w1 v.ownBlock) :
    w1.cell? ⟨W.heap.size + 1 + 1, 1, none⟩ = some v ∧ w1.frozen? ⟨W.heap.size + 1 + 1, 1, none⟩ = false := by
  have e : w1.heap[W.heap.size + 2]? = some (.cells #[.int .i64 (h : Int), v] 83 (0, 0)) := by
    rw [hg.block _ (by simp; omega) (fun e => by have := (i4.lt _ e.symm).1; omega), Below.heap_alloc _ _ _ (by simp; omega), Below.heap_alloc _ _ _ (by omega)]
    exact i2
  exact ⟨cell_of_block e 1, unfrozen_of_block e 1⟩

set_option maxHeartbeats 2000000 in
theorem weave_any (s : Nat) (a b c : Int) (n : Nat) (w : World) (h0 : 1 ≤ n) (h1 : n ≤ 65536) :
    Calls Try.prog 49 #[.agg #[.int .u64 (s : Int), .int .i64 a, .int .i64 b, .int .i64 c], .int .i64 (n : Int)] w (WeavePost s a b c n w) := by
  have hmf : ∀ (fn : Fn) (first cap : Array Value) (w : World), (Instr.makeFunc fn first cap).run Try.prog w = .ok (.func fn first cap) w := fun _ _ _ _ => rfl
  obtain ⟨i0, hi, hz0, hz1, hz2⟩ := info_parts Try.info66
  have HZ0 := Lib.hid hz0; have HZ1 := Lib.hid hz1; have HZ2 := Lib.hid hz2; have HI := Lib.hid hi
  clear hz0 hz1 hz2 hi
  go_enter Try.func49, Try.ntmps49
  go_wp2_with fail
  go_loopg [9] 8 (fun k _ wr => ∃ q : Nat, k + q = 9 ∧ 1 ≤ q ∧ q ≤ 8 ∧ (q = 1 ∨ 2 ^ (2 * (q - 1)) < n) ∧ wr = ((w.alloc (Obj.cells #[.int .u64 (s : Int), .int .i64 a, .int .i64 b, .int .i64 c] 24)).alloc (Obj.cells #[.int .i64 0, .slice none 0 0] 83)).alloc (Obj.cells #[.int .i64 (q : Int), .slice none 0 0] 83))
  case atStart => exact ⟨1, by omega, by omega, by omega, .inl rfl, rfl⟩
  case round =>
    obtain ⟨q, hgk, hq1, hq2, hq3, rfl⟩ := hrel
    have hq4 : (q : Int) ≤ 8 := by omega
    have hq5 : (1 : Int) ≤ (q : Int) := by omega
    have HQ3 := Lib.hid hq3; have HGK := Lib.hid hgk
    clear hq3 hgk
    by_cases hlt : 2 ^ (2 * q) < n
    · have hl : wrap64 ((2 : Int) ^ (2 * q)) < (n : Int) := by rw [wrap_pow hq2]; omega
      have hq6 := ge_pow8 h1 hq2 hlt
      have HLT := Lib.hid hlt
      clear hlt
      go_wp2_with fail
      go_roundg (gk - 1)
      case measure => have := HGK.out; omega
      case rel => exact ⟨q + 1, by have := HGK.out; omega, by omega, hq6, .inr HLT.out, rfl⟩
    · have hl : ¬ wrap64 ((2 : Int) ^ (2 * q)) < (n : Int) := by rw [wrap_pow hq2]; omega
      have hhalf := Lib.hid (show HalfOf n q from ⟨hq1, hq2, HQ3.out, by omega⟩)
      clear hlt HQ3 HGK
      go_wp2_with fail
      rw [wrap_mask hq2]
      clear hl hq4 hq5
      go_loopw [23] (fun i wr => ∃ k : Nat, k ≤ 4 ∧ i = .int .i64 k ∧ Inv s a b c q k w wr) (fun i _ => 4 - (intOf i).toNat)
      case atStart => exact ⟨0, by omega, rfl, inv_start⟩
      case round =>
        obtain ⟨k, hk, rfl, hinv⟩ := hrel
        obtain ⟨v, T, i0', i1, i2, i3, i4, i5, i6, i7⟩ := hinv
        by_cases hlt : k < 4
        · have i5' := Lib.hid i5
          clear i5
          have c1 : wr.cell? ⟨w.heap.size + 1 + 1, 1, none⟩ = some v := cell_of_block i2 1
          have l1 : w.heap.size + 1 + 1 < wr.heap.size := by omega
          have I0 := Lib.hid i0'; have I1 := Lib.hid i1; have I2 := Lib.hid i2; have I3 := Lib.hid i3
          clear i0' i1 i2 i3
          go_wp2_with (at_builtin; refine wpList_append_own _ rfl (.tmp 27) (.tmp 29) 81 rfl (w.heap.size + 4) 66 i0 .nilFunc 1 8 Try.underlying81 HI.out HZ0.out HZ1.out HZ2.out rfl (by decide) _ k _ rfl ((i4.alloc _).alloc _) ⟨wr.heap.size + 1, 0, none⟩ 1 1 [clo w.heap.size (w.heap.size + 3) wr.heap.size] rfl rfl (by intro j u hj; match j, hj with | 0, hj => simp at hj; subst hj; simp [Addr.add, go_sem, clo]) (by intro u hu; simp at hu; subst hu; rfl) (by unfold maxLen; omega) (by omega) (by simp; omega) ?_; intro v1 w1 hown1 hgrow1 _; obtain ⟨g1, cap1, hf1⟩ := ownsRow_form hown1 (by omega); subst hf1; have hst := inv_step I0.out I1.out I2.out I3.out i4 i5'.out i6 i7 hown1 hgrow1; have c2 := inv_cell I2.out i4 i7 hgrow1; have c3 := c2.2; have c2 := c2.1)
          go_roundw
          case rel => exact ⟨k + 1, by omega, by go_num, hst⟩
          case measure => simp [intOf]; omega
        · obtain rfl : k = 4 := by omega
          obtain ⟨g, cap, hform⟩ := ownsRow_form i4 (by omega)
          subst hform
          have c1 : wr.cell? ⟨w.heap.size + 1 + 1, 0, none⟩ = some (.int .i64 (q : Int)) := cell_of_block i2 0
          have c2 : wr.cell? ⟨w.heap.size + 1 + 1, 1, none⟩ = some (.slice (some ⟨g, 0, none⟩) 4 cap) := cell_of_block i2 1
          have c3 : wr.cell? ⟨w.heap.size + 1, 0, none⟩ = some (.int .i64 0) := cell_of_block i1 0
          have c4 : wr.cell? ⟨w.heap.size + 1, 1, none⟩ = some (.slice none 0 0) := cell_of_block i1 1
          have f3 : wr.frozen? ⟨w.heap.size + 1, 0, none⟩ = false := unfrozen_of_block i1 0
          have f4 : wr.frozen? ⟨w.heap.size + 1, 1, none⟩ = false := unfrozen_of_block i1 1
          have hgw : w.heap.size + 4 ≤ g := (i4.lt g rfl).1
          have hnet : Net s a b c q (.slice (some ⟨g, 0, none⟩) 4 cap) ((wr.setCell ⟨w.heap.size + 1, 0, none⟩ (.int .i64 (q : Int))).setCell ⟨w.heap.size + 1, 1, none⟩ (.slice (some ⟨g, 0, none⟩) 4 cap)) := by
            have far : ∀ p o, p ≠ w.heap.size + 1 → ((wr.setCell ⟨w.heap.size + 1, 0, none⟩ (.int .i64 (q : Int))).setCell ⟨w.heap.size + 1, 1, none⟩ (.slice (some ⟨g, 0, none⟩) 4 cap)).cell? ⟨p, o, none⟩ = wr.cell? ⟨p, o, none⟩ := fun p o hp => by
              rw [World.cell?_of_block (w := wr.setCell ⟨w.heap.size + 1, 0, none⟩ (.int .i64 (q : Int))) (Below.heap_setCell _ _ _ _ hp), World.cell?_of_block (w := wr) (Below.heap_setCell _ _ _ _ hp)]
            refine ⟨g, cap, w.heap.size, w.heap.size + 3, T, rfl, fun t ht => ⟨?_, ?_⟩, ?_, ?_, ?_, ?_, ?_⟩
            · rw [far _ _ (by omega), i4.cellAt t (by omega)]; simp [ht]
            · rw [far _ _ (by have := (i5 t ht).2; omega)]; exact cell_of_block (i5 t ht).1 0
            · rw [far _ _ (by omega)]; exact cell_of_block i0' 0
            · rw [far _ _ (by omega)]; exact cell_of_block i0' 1
            · rw [far _ _ (by omega)]; exact cell_of_block i0' 2
            · rw [far _ _ (by omega)]; exact cell_of_block i0' 3
            · rw [far _ _ (by omega)]; exact cell_of_block i3 0
          have HN := Lib.hid hnet
          have hbel := (i6.setCell (p := ⟨w.heap.size + 1, 0, none⟩) (by show w.heap.size ≤ w.heap.size + 1; omega) (.int .i64 (q : Int))).setCell (p := ⟨w.heap.size + 1, 1, none⟩) (by show w.heap.size ≤ w.heap.size + 1; omega) (.slice (some ⟨g, 0, none⟩) 4 cap)
          clear hnet i5 i0' i1 i2 i3 i4 i6
          go_wp2_with fail
          exact bodyPost_ret (by simp [results, Try.results49, go_sem, c3, c4]) rfl ⟨q, _, rfl, hhalf.out, HN.out, hbel⟩
end Go.Proofs.Ytcojiienmmmihaa
