/- Walks: an order of numbers, by the program and by the reference. -/
import Derived.Test.YtcojiienmmmihaaE0
namespace Go.Proofs.Ytcojiienmmmihaa
open Go.RowKit Go.Joins
set_option maxRecDepth 100000

theorem Try.info3 : (Try.prog.info? 3).map (fun i => (i.zero, i.size, i.bytes)) = some (some (.int .i64 0), 1, 8) := by kernel_rfl

/-- The numbers by which an order's places are changed. -/
def M.pick (s : Nat) (a b c : Int) (i : Nat) : Nat := M.below s a b c i (i + 1)
theorem M.pick_le (s : Nat) (a b c : Int) (i : Nat) : M.pick s a b c i ≤ i := by
  have := M.below_lt s a b c i (n := i + 1) (by omega)
  unfold M.pick; omega

theorem Perm_none (s : Nat) (a b c n : Int) (w : World) (hn : n < 0 ∨ 65536 < n) :
    Calls Try.prog 21 #[.agg #[.int .u64 (s : Int), .int .i64 a, .int .i64 b, .int .i64 c], .int .i64 n] w fun e w' => e = .returned (.tuple #[.slice none 0 0, .int .i64 2]) ∧ Below w.heap.size w w' := by
  rcases hn with h | h
  · go_enter Try.func21, Try.ntmps21
    go_wp2_with fail
    go_ret2
    exact ⟨rfl, (Below.refl _ _).alloc (Nat.le_refl _) _⟩
  · have h2 : ¬ n < 0 := by omega
    go_enter Try.func21, Try.ntmps21
    go_wp2_with fail
    go_ret2
    exact ⟨rfl, (Below.refl _ _).alloc (Nat.le_refl _) _⟩

def PermPost (n : Nat) (L : List Int) (w : World) (e : Ending) (w' : World) : Prop :=
  ∃ g cap, e = .returned (.tuple #[.slice (some ⟨g, 0, none⟩) n cap, .int .i64 0]) ∧ w'.ownsRow w.heap.size 3 1 (.slice (some ⟨g, 0, none⟩) n cap) n (L.map (Value.int .i64)) ∧ Below w.heap.size w w'

theorem getD_map_int (L : List Int) (k : Nat) (h : k < L.length) : (L.map (Value.int .i64))[k]? = some (.int .i64 (L.getD k 0)) := by
  simp [List.getD, List.getElem?_eq_getElem h]

/-- The key's box lies where it was laid. -/
theorem key_cells {s : Nat} {a b c : Int} {w wr : World} {T : TypeId} (hb : Below (w.heap.size + 1) (w.alloc (Obj.cells #[.int .u64 (s : Int), .int .i64 a, .int .i64 b, .int .i64 c] T)) wr) :
    wr.cell? ⟨w.heap.size, 0, none⟩ = some (.int .u64 (s : Int)) ∧ wr.cell? ⟨w.heap.size, 1, none⟩ = some (.int .i64 a) ∧ wr.cell? ⟨w.heap.size, 2, none⟩ = some (.int .i64 b) ∧ wr.cell? ⟨w.heap.size, 3, none⟩ = some (.int .i64 c) := by
  have e := fun o => hb.cell (p := ⟨w.heap.size, o, none⟩) (by show w.heap.size < w.heap.size + 1; omega)
  refine ⟨?_, ?_, ?_, ?_⟩ <;> (rw [e]; simp [go_sem])

theorem owns_below {w w' : World} {base e size n : Nat} {v : Value} {xs : List Value} (h : w.ownsRow base e size v n xs) (hb : Below w.heap.size w w') : w'.ownsRow base e size v n xs :=
  h.kept (row := none) ⟨hb.os, hb.tape, hb.output, hb.size, fun k hk _ => hb.block k hk⟩ (by cases v.ownBlock <;> simp)
theorem cell_after {w : World} {p q : Addr} {x v : Value} (h : w.cell? q = some v) : ∃ v', (w.setCell p x).cell? q = some v' := by
  by_cases e : p = q
  · subst e; exact ⟨x, World.cell?_setCell_same w p x h⟩
  · exact ⟨v, (World.cell?_setCell_other w p q x e).trans h⟩

theorem shuf_step (f : Nat → Nat) (m : Nat) (L : List Int) (h : 0 < m) : M.shuf f m L = M.shuf f (m - 1) (M.swapAt L m (f m)) := by
  cases m with
  | zero => omega
  | succ m => rfl

set_option maxHeartbeats 1000000 in
theorem Perm_some (s : Nat) (a b c : Int) (n : Nat) (w : World) (h0 : 1 ≤ n) (h1 : n ≤ 65536) :
    Calls Try.prog 21 #[.agg #[.int .u64 (s : Int), .int .i64 a, .int .i64 b, .int .i64 c], .int .i64 n] w (PermPost n (M.perm (M.pick s a b c) n) w) := by
  obtain ⟨i0, hi, hz0, hz1, hz2⟩ := info_parts Try.info3
  have hA0 : ¬ (n : Int) < 0 := by omega
  have hA1 : ¬ (65536 : Int) < n := by omega
  have HZ0 := Lib.hid hz0; have HZ1 := Lib.hid hz1; have HZ2 := Lib.hid hz2; have HI := Lib.hid hi
  clear hz0 hz1 hz2 hi
  go_enter Try.func21, Try.ntmps21
  go_wp2_with (at_make; refine wpList_make_own _ rfl _ _ 34 rfl (w.heap.size + 1) 3 i0 (.int .i64 0) 1 Try.underlying34 HI.out HZ0.out HZ1.out .i64 .i64 _ n rfl rfl rfl (by rw [HZ2.out]; omega) (by unfold maxLen; omega) (by simp) ?_; intro w0 hown0 hgrow0)
  rw [show (w.alloc (Obj.cells #[.int .u64 (s : Int), .int .i64 a, .int .i64 b, .int .i64 c] 24)).heap.size = w.heap.size + 1 from by simp] at hown0
  have hb0 : Below (w.heap.size + 1) (w.alloc (Obj.cells #[.int .u64 (s : Int), .int .i64 a, .int .i64 b, .int .i64 c] 24)) w0 := (Below.refl _ _).grown hgrow0 (by simp) (by intro k h; cases h)
  clear hgrow0
  go_loopw [6, 7, 19] (fun out _ i wr => ∃ k : Nat, k ≤ n ∧ i = .int .i64 k ∧ out = .slice (some ⟨w.heap.size + 1, 0, none⟩) k n ∧
      wr.ownsRow (w.heap.size + 1) 3 1 (.slice (some ⟨w.heap.size + 1, 0, none⟩) k n) k ((M.upTo k).map (Value.int .i64)) ∧ Below (w.heap.size + 1) (w.alloc (Obj.cells #[.int .u64 (s : Int), .int .i64 a, .int .i64 b, .int .i64 c] 24)) wr)
    (fun _ _ i _ => n - (intOf i).toNat)
  case atStart => exact ⟨0, Nat.zero_le _, rfl, rfl, hown0, hb0⟩
  case round =>
    obtain ⟨k, hk, rfl, rfl, hown, hb⟩ := hrel
    clear hown0 hb0
    by_cases hlt : k < n
    · go_wp2_with (at_builtin; refine wpList_append_fits _ rfl (.tmp 22) (.tmp 24) 34 rfl (w.heap.size + 1) 3 i0 1 Try.underlying34 HI.out HZ1.out (w.heap.size + 1) k n _ rfl (hown.alloc _) ⟨wr.heap.size, 0, none⟩ 1 1 [.int .i64 (k : Int)] rfl rfl (cell_one_new _ _ _) (by intro u hu; simp at hu; subst hu; rfl) (by omega) ?_; intro w1 hown1 hgrow1)
      have hsz := hb.size
      simp at hsz
      have hown2 : w1.ownsRow (w.heap.size + 1) 3 1 (.slice (some ⟨w.heap.size + 1, 0, none⟩) (k + 1) n) (k + 1) ((M.upTo (k + 1)).map (Value.int .i64)) := by
        rw [M.upTo_succ, List.map_append]; exact hown1
      have hb1 : Below (w.heap.size + 1) (w.alloc (Obj.cells #[.int .u64 (s : Int), .int .i64 a, .int .i64 b, .int .i64 c] 24)) w1 := (hb.alloc (by omega) _).grown hgrow1 (by simp; omega) (by intro k h; simp at h; omega)
      go_roundw
      case rel => exact ⟨k + 1, by omega, by go_num, by go_num, hown2, hb1⟩
      case measure => simp [intOf]; omega
    · obtain rfl : n = k := by omega
      go_wp2_with fail
      clear hlt hk
      go_loopw [8, 9] (fun i _ wr => ∃ (m : Nat) (L : List Int), m < n ∧ i = .int .i64 m ∧ L.length = n ∧ M.shuf (M.pick s a b c) m L = M.perm (M.pick s a b c) n ∧
          wr.ownsRow (w.heap.size + 1) 3 1 (.slice (some ⟨w.heap.size + 1, 0, none⟩) n n) n (L.map (Value.int .i64)) ∧ Below (w.heap.size + 1) (w.alloc (Obj.cells #[.int .u64 (s : Int), .int .i64 a, .int .i64 b, .int .i64 c] 24)) wr)
        (fun i _ _ => (intOf i).toNat)
      case atStart => exact ⟨n - 1, M.upTo n, by omega, by congr 1; omega, by simp [M.upTo], rfl, hown, hb⟩
      case round =>
        clear hown hb
        obtain ⟨m, L, hm, rfl, hL, hsh, hown, hb⟩ := hrel
        have HSH := Lib.hid hsh; have HL := Lib.hid hL
        clear hsh hL
        by_cases hpos : 0 < m
        · obtain ⟨k0, k1, k2, k3⟩ := key_cells hb
          go_wp2_with fail
          refine (Below_any s a b c m (m + 1) _ (by omega) (by omega)).mono ?_
          rintro e w1 ⟨rfl, hb1⟩
          go_wp2_with fail
          rw [show M.below s a b c m (m + 1) = M.pick s a b c m from rfl]
          have hj := M.pick_le s a b c m
          have hstep := Lib.hid (shuf_step (M.pick s a b c) m L hpos)
          generalize M.pick s a b c m = j at *
          have hown1 := owns_below hown hb1
          have hb2 : Below (w.heap.size + 1) (w.alloc (Obj.cells #[.int .u64 (s : Int), .int .i64 a, .int .i64 b, .int .i64 c] 24)) w1 := hb.trans (hb1.mono (by have := hb.size; simp at this; omega))
          clear hown hb hb1 k0 k1 k2 k3
          have cm := hown1.cellAt m (by omega)
          rw [getD_map_int L m (by rw [HL.out]; exact hm)] at cm
          have cj := hown1.cellAt j (by omega)
          rw [getD_map_int L j (by rw [HL.out]; omega)] at cj
          have fm := hown1.frozenAt m
          have fj := hown1.frozenAt j
          have b0 : (0 : Int) ≤ (m : Int) := by omega
          have b1 : (m : Int) < (n : Int) := by omega
          have b2 : (0 : Int) ≤ (j : Int) := by omega
          have b3 : (j : Int) < (n : Int) := by omega
          obtain ⟨v', hv'⟩ := cell_after (w := w1) (p := ⟨w.heap.size + 1, m, none⟩) (x := .int .i64 (L.getD j 0)) (q := ⟨w.heap.size + 1, j, none⟩) (v := .int .i64 (L.getD j 0)) cj
          refine exchange cm cj fm fj b1 b3 b0 b2 hv' ?_
          go_wp2_with fail
          refine ⟨⟨m - 1, M.swapAt L m j, by omega, by congr 1; omega, by rw [M.swapAt_length]; exact HL.out, hstep.out.symm.trans HSH.out, ?_, ?_⟩, by simp [intOf]; omega⟩
          · have h1 := ((hown1.stored m (.int .i64 (L.getD j 0))).1.stored j (.int .i64 (L.getD m 0))).1
            rw [← List.map_set, ← List.map_set] at h1
            exact h1.drew
          · exact ((hb2.setCell (Nat.le_refl _) _).setCell (Nat.le_refl _) _).drew
        · obtain rfl : m = 0 := by omega
          go_wp2_with fail
          go_ret2
          exact ⟨_, _, rfl, by rw [← HSH.out]; exact ownsRow_le hown (by omega), ((Below.refl _ _).alloc (Nat.le_refl _) _).trans (hb.mono (by omega))⟩

end Go.Proofs.Ytcojiienmmmihaa
