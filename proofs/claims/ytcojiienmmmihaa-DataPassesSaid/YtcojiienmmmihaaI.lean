/- Walks: an order of none, and the reference's order. -/
import Derived.Test.YtcojiienmmmihaaG
namespace Go.Proofs.Ytcojiienmmmihaa
open Go.RowKit Go.Joins
set_option maxRecDepth 100000

set_option maxHeartbeats 1000000 in
theorem Perm_zero (s : Nat) (a b c : Int) (w : World) :
    Calls Try.prog 21 #[.agg #[.int .u64 (s : Int), .int .i64 a, .int .i64 b, .int .i64 c], .int .i64 ((0 : Nat) : Int)] w (PermPost 0 (M.perm (M.pick s a b c) 0) w) := by
  obtain ⟨i0, hi, hz0, hz1, hz2⟩ := info_parts Try.info3
  have HZ0 := Lib.hid hz0; have HZ1 := Lib.hid hz1; have HZ2 := Lib.hid hz2; have HI := Lib.hid hi
  clear hz0 hz1 hz2 hi
  go_enter Try.func21, Try.ntmps21
  go_wp2_with (at_make; refine wpList_make_own _ rfl _ _ 34 rfl (w.heap.size + 1) 3 i0 (.int .i64 0) 1 Try.underlying34 HI.out HZ0.out HZ1.out .i64 .i64 _ 0 rfl rfl rfl (by rw [HZ2.out]; omega) (by unfold maxLen; omega) (by simp) ?_; intro w0 hown0 hgrow0)
  rw [show (w.alloc (Obj.cells #[.int .u64 (s : Int), .int .i64 a, .int .i64 b, .int .i64 c] 24)).heap.size = w.heap.size + 1 from by simp] at hown0
  have hb0 : Below (w.heap.size + 1) (w.alloc (Obj.cells #[.int .u64 (s : Int), .int .i64 a, .int .i64 b, .int .i64 c] 24)) w0 := (Below.refl _ _).grown hgrow0 (by simp) (by intro k h; cases h)
  refine wp_loop_rounds 1 ?_
  rw [rounds_succ]
  go_wp2_with fail
  refine wp_loop_rounds 1 ?_
  rw [rounds_succ]
  go_wp2_with fail
  go_ret2
  exact ⟨_, _, rfl, ownsRow_le hown0 (by omega), ((Below.refl _ _).alloc (Nat.le_refl _) _).trans (hb0.mono (by omega))⟩

/-- What the reference's order hands back: a list of the call's own. -/
def ListPost (n : Nat) (L : List Int) (w : World) (e : Ending) (w' : World) : Prop :=
  ∃ v, e = .returned v ∧ w'.ownsRow w.heap.size 3 1 v n (L.map (Value.int .i64)) ∧ Below w.heap.size w w'

/-- The number at a place, behind a name. -/
def nth (L : List Int) (m : Nat) : Int := L.getD m 0
theorem nth_def (L : List Int) (m : Nat) : nth L m = L.getD m 0 := rfl

set_option maxHeartbeats 1000000 in
theorem rPerm_some (s : Nat) (a b c : Int) (n : Nat) (w : World) (h1 : n ≤ 65536) :
    Calls Try.prog 22 #[.agg #[.int .u64 (s : Int), .int .i64 a, .int .i64 b, .int .i64 c], .int .i64 n] w (ListPost n (M.perm (M.pick s a b c) n) w) := by
  obtain ⟨i0, hi, hz0, hz1, hz2⟩ := info_parts Try.info3
  have HZ0 := Lib.hid hz0; have HZ1 := Lib.hid hz1; have HZ2 := Lib.hid hz2; have HI := Lib.hid hi
  clear hz0 hz1 hz2 hi
  go_enter Try.func22, Try.ntmps22
  go_wp2_with fail
  go_loopw [5, 6] (fun out i wr => ∃ k : Nat, k ≤ n ∧ i = .int .i64 k ∧
      wr.ownsRow (w.heap.size + 1) 3 1 out k ((M.upTo k).map (Value.int .i64)) ∧ Below (w.heap.size + 1) (w.alloc (Obj.cells #[.int .u64 (s : Int), .int .i64 a, .int .i64 b, .int .i64 c] 28)) wr)
    (fun _ i _ => n - (intOf i).toNat)
  case atStart => exact ⟨0, Nat.zero_le _, rfl, World.ownsRow_nil _ _ _ _, Below.refl _ _⟩
  case round =>
    obtain ⟨k, hk, rfl, hown, hb⟩ := hrel
    by_cases hlt : k < n
    · go_wp2_with (at_builtin; refine wpList_append_own _ rfl (.tmp 15) (.tmp 17) 34 rfl (w.heap.size + 1) 3 i0 (.int .i64 0) 1 8 Try.underlying34 HI.out HZ0.out HZ1.out HZ2.out rfl (by decide) _ k _ rfl (hown.alloc _) ⟨wr.heap.size, 0, none⟩ 1 1 [.int .i64 (k : Int)] rfl rfl (cell_one_new _ _ _) (by intro u hu; simp at hu; subst hu; rfl) (by unfold maxLen; omega) (by omega) (by have := hb.size; simp at this; simp; omega) ?_; intro v1 w1 hown1 hgrow1 _)
      have hsz := hb.size
      simp at hsz
      have hown2 : w1.ownsRow (w.heap.size + 1) 3 1 v1 (k + 1) ((M.upTo (k + 1)).map (Value.int .i64)) := by
        rw [M.upTo_succ, List.map_append]; exact hown1
      have hb1 : Below (w.heap.size + 1) (w.alloc (Obj.cells #[.int .u64 (s : Int), .int .i64 a, .int .i64 b, .int .i64 c] 28)) w1 := (hb.alloc (by omega) _).grown hgrow1 (by simp; omega) (fun q hq => (hown.lt q hq).1)
      go_roundw
      case rel => exact ⟨k + 1, by omega, by go_num, hown2, hb1⟩
      case measure => simp [intOf]; omega
    · obtain rfl : n = k := by omega
      clear hlt hk
      rcases Nat.eq_zero_or_pos n with hz | hpos0
      · subst hz
        go_wp2_with fail
        refine wp_loop_rounds 1 ?_
        rw [rounds_succ]
        go_wp2_with fail
        go_ret
        exact ⟨_, rfl, ownsRow_le hown (by omega), ((Below.refl _ _).alloc (Nat.le_refl _) _).trans (hb.mono (by omega))⟩
      obtain ⟨g, cap, hform⟩ := ownsRow_form hown hpos0
      subst hform
      have hg := (hown.lt g rfl).1
      go_wp2_with fail
      go_loopw [7, 8, 9] (fun i _ _ wr => ∃ (m : Nat) (L : List Int), m < n ∧ i = .int .i64 m ∧ L.length = n ∧ M.shuf (M.pick s a b c) m L = M.perm (M.pick s a b c) n ∧
          wr.ownsRow (w.heap.size + 1) 3 1 (.slice (some ⟨g, 0, none⟩) n cap) n (L.map (Value.int .i64)) ∧ Below (w.heap.size + 1) (w.alloc (Obj.cells #[.int .u64 (s : Int), .int .i64 a, .int .i64 b, .int .i64 c] 28)) wr)
        (fun i _ _ _ => (intOf i).toNat)
      case atStart => exact ⟨n - 1, M.upTo n, by omega, by congr 1; omega, by simp [M.upTo], rfl, hown, hb⟩
      case round =>
        clear hown hb
        obtain ⟨m, L, hm, rfl, hL, hsh, hown, hb⟩ := hrel
        have HSH := Lib.hid hsh; have HL := Lib.hid hL
        clear hsh hL
        by_cases hpos : 1 ≤ m
        · obtain ⟨k0, k1, k2, k3⟩ := key_cells hb
          go_wp2_with fail
          refine (rBelow_any s a b c m (m + 1) _ (by omega) (by omega)).mono ?_
          rintro e w1 ⟨rfl, hb1⟩
          rw [show M.below s a b c m (m + 1) = M.pick s a b c m from rfl]
          have hj := M.pick_le s a b c m
          have hstep := Lib.hid (shuf_step (M.pick s a b c) m L hpos)
          obtain ⟨j, hjj⟩ : ∃ j, j = M.pick s a b c m := ⟨_, rfl⟩
          rw [← hjj] at hj hstep ⊢
          clear hjj
          have hown1 := owns_below hown hb1
          have hb2 : Below (w.heap.size + 1) (w.alloc (Obj.cells #[.int .u64 (s : Int), .int .i64 a, .int .i64 b, .int .i64 c] 28)) w1 := hb.trans (hb1.mono (by have := hb.size; simp at this; omega))
          clear hown hb hb1 k0 k1 k2 k3
          have cm := hown1.cellAt m (by omega)
          rw [getD_map_int L m (by rw [HL.out]; exact hm)] at cm
          have cj := hown1.cellAt j (by omega)
          rw [getD_map_int L j (by rw [HL.out]; omega)] at cj
          have fm := hown1.frozenAt m
          have fj := hown1.frozenAt j
          rw [← nth_def L m] at cm
          rw [← nth_def L j] at cj
          obtain ⟨v', hv'⟩ := cell_after (w := w1) (p := ⟨g, m, none⟩) (x := .int .i64 (nth L j)) (q := ⟨g, j, none⟩) (v := .int .i64 (nth L j)) cj
          go_wp2_with fail
          refine ⟨⟨m - 1, M.swapAt L m j, by omega, by congr 1; omega, by rw [M.swapAt_length]; exact HL.out, hstep.out.symm.trans HSH.out, ?_, ?_⟩, by simp [intOf]; omega⟩
          · have h1 := ((hown1.stored m (.int .i64 (nth L j))).1.stored j (.int .i64 (nth L m))).1
            rw [← List.map_set, ← List.map_set] at h1
            exact h1
          · exact (hb2.setCell hg _).setCell hg _
        · obtain rfl : m = 0 := by omega
          go_wp2_with fail
          go_ret
          exact ⟨_, rfl, by rw [← HSH.out]; exact ownsRow_le hown (by omega), ((Below.refl _ _).alloc (Nat.le_refl _) _).trans (hb.mono (by omega))⟩

end Go.Proofs.Ytcojiienmmmihaa
