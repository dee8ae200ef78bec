/- Walks: the reference's Batch and Asked of layer 6. -/
import Derived.Test.YtcojiienmmmihaaDh
namespace Go.Proofs.Ytcojiienmmmihaa
open Go.RowKit Go.Joins Go.Shelf
set_option maxRecDepth 100000
set_option linter.unusedVariables false

theorem M.batch_at {s worker round m ss j r p : Nat} {hm : 1 ≤ m} {L : List Int} (hr : r < m) (he : r + p * m = ss + j) (hb : ss + j ≤ 8191) :
    M.batchAt s worker round m L (turnAt ss m j hm) = nth L (M.plc s 2 (worker : Int) (65536 * (round : Int) + (p : Int)) m r) := by
  rw [Int.mul_comm 65536 (round : Int)]
  have h1 : (ss + j) / m = p := by rw [← he, Nat.add_mul_div_right _ _ hm, Nat.div_eq_of_lt hr, Nat.zero_add]
  have h2 : (ss + j) % m = r := by rw [← he, Nat.add_mul_mod_self_right, Nat.mod_eq_of_lt hr]
  have h3 : p ≤ 8191 := by rw [← h1]; exact Nat.le_trans (Nat.div_le_self _ _) hb
  simp [M.batchAt, turnAt, h1, h2, Nat.min_eq_left h3]

set_option maxHeartbeats 4000000 in
theorem rBatch_yes (s worker round step size m cap : Nat) (ad : Addr) (L : List Int) (w : World) (h1 : worker ≤ 63) (h2 : round ≤ 256) (h3 : step ≤ 63) (h4 : 1 ≤ size) (h5 : size ≤ 64) (hm : 1 ≤ m) (hm2 : m ≤ 4096)
    (hc : ∀ j, j < m → w.cell? (ad.add j) = some (.int .i64 (nth L j))) :
    Calls Try.prog 37 #[.int .u64 (s : Int), .int .i64 (worker : Int), .int .i64 (round : Int), .int .i64 (step : Int), .int .i64 (size : Int), .slice (some ad) m cap] w fun e w' => ∃ v, e = .returned v ∧ Reads w' v (M.batch s worker round step size m hm L) ∧ Below w.heap.size w w' := by
  obtain ⟨i0, hi, hz0, hz1, hz2⟩ := info_parts Try.info3
  have HZ0 := Lib.hid hz0; have HZ1 := Lib.hid hz1; have HZ2 := Lib.hid hz2; have HI := Lib.hid hi
  clear hz0 hz1 hz2 hi
  have HC := Lib.hid hc
  clear hc
  obtain ⟨ss, hss⟩ : ∃ ss, ss = step * size := ⟨_, rfl⟩
  have hss2 : ss ≤ 63 * 64 := by rw [hss]; exact Nat.mul_le_mul h3 h5
  have hmul : (step : Int) * (size : Int) = (ss : Int) := by rw [hss]; exact (Int.natCast_mul step size).symm
  have HB0 := Lib.hid (show M.batch s worker round step size m hm L = (turnsTo ss m size hm).map (M.batchAt s worker round m L) by rw [hss]; rfl)
  clear hss
  have HSTEP := Lib.hid (fun j => turnsTo_succ ss m j hm)
  have HLEN := Lib.hid (fun j => turnsTo_length ss m j hm)
  have HAT := Lib.hid (fun j r p hr he hb => M.batch_at (s := s) (worker := worker) (round := round) (m := m) (ss := ss) (j := j) (r := r) (p := p) (hm := hm) (L := L) hr he hb)
  go_enter Try.func37, Try.ntmps37
  go_wp2_with fail
  go_loopw [13, 14, 15, 16, 17] (fun out k _ _ _ W => ∃ j : Nat, j ≤ size ∧ k = .int .i64 (j : Int) ∧ W.ownsRow w.heap.size 3 1 out j (((turnsTo ss m j hm).map (M.batchAt s worker round m L)).map (Value.int .i64)) ∧ Below w.heap.size w W) (fun _ k _ _ _ _ => size - (intOf k).toNat)
  case atStart => exact ⟨0, Nat.zero_le _, rfl, World.ownsRow_nil _ _ _ _, Below.refl _ _⟩
  case round =>
    obtain ⟨j, hj, rfl, hown, hB⟩ := hrel
    have HO := Lib.hid hown
    have HB := Lib.hid hB
    clear hown hB
    obtain ⟨V, rfl⟩ : ∃ V, V = wr := ⟨_, rfl⟩
    by_cases hlt : j < size
    · go_wp2_with fail
      go_loopw [15, 16] (fun x y W => ∃ r p : Nat, x = .int .i64 (r : Int) ∧ y = .int .i64 (p : Int) ∧ r + p * m = ss + j ∧ p ≤ ss + j ∧ W = V) (fun x _ _ => (intOf x).toNat)
      case atStart => exact ⟨ss + j, 0, by go_num, rfl, by simp, by omega, rfl⟩
      case round =>
        obtain ⟨r, p, rfl, rfl, he, hp, rfl⟩ := hrel
        have hrb : r ≤ ss + j := by omega
        by_cases hge : m ≤ r
        · have d1 : decide ((m : Int) ≤ (r : Int)) = true := decide_eq_true (by omega)
          have he2 : (r - m) + (p + 1) * m = ss + j := by rw [Nat.succ_mul]; omega
          have hp2 : p + 1 ≤ ss + j := by
            have : p + 1 ≤ (p + 1) * m := Nat.le_mul_of_pos_right _ hm
            omega
          have HE2 := Lib.hid he2
          clear he he2
          go_wp2_with fail
          go_roundw
          case rel => exact ⟨r - m, p + 1, by go_num, by go_num, HE2.out, hp2, trivial⟩
          case measure => simp [intOf]; omega
        · have d1 : decide ((m : Int) ≤ (r : Int)) = false := decide_eq_false (by omega)
          have hat := HAT.out j r p (by omega) he (by omega)
          have HE := Lib.hid he
          have HAT2 := Lib.hid hat
          clear he hat
          go_wp2_with fail
          refine (rPlace_any s 2 (worker : Int) (65536 * (round : Int) + (p : Int)) m r _ (by omega) (by omega)).mono ?_
          rintro e w4 ⟨rfl, hb4⟩
          have hpl := M.plc_lt s 2 (worker : Int) (65536 * (round : Int) + (p : Int)) (by omega : m ≤ 65536) (show r < m by omega)
          obtain ⟨x, hx⟩ : ∃ x, x = M.plc s 2 (worker : Int) (65536 * (round : Int) + (p : Int)) m r := ⟨_, rfl⟩
          have hat2 := HAT2.out
          rw [← hx] at hpl hat2 ⊢
          clear hx
          have HAT3 := Lib.hid hat2
          have hB4 : Below w.heap.size w w4 := (HB.out.alloc HB.out.size _).trans (hb4.mono (by have := HB.out.size; simp; omega))
          have hown4 := owns_below (HO.out.alloc _) hb4
          have hc := (hB4.cell (World.block_lt_of_cell? _ _ (HC.out x hpl))).trans (HC.out x hpl)
          obtain ⟨y, hy⟩ : ∃ y, y = nth L x := ⟨_, rfl⟩
          rw [← hy] at hc
          have HY := Lib.hid hy
          have HB4 := Lib.hid hB4
          clear hb4 hB4 hat2 hy
          go_wp2_with (at_builtin; refine wpList_append_own _ rfl (.tmp 45) (.tmp 54) 34 rfl w.heap.size 3 i0 (.int .i64 0) 1 8 Try.underlying34 HI.out HZ0.out HZ1.out HZ2.out rfl (by decide) _ j _ rfl (hown4.alloc _) ⟨w4.heap.size, 0, none⟩ 1 1 [.int .i64 y] rfl rfl (cell_one_new _ _ _) (by intro u hu; simp at hu; subst hu; rfl) (by unfold maxLen; omega) (by omega) (by have := HB4.out.size; simp; omega) ?_; intro v1 w6 hown6 hgrow6 hnil6)
          have hsz := HB4.out.size
          have hB7 := (HB4.out.alloc (by omega) _).grown hgrow6 (by simp; omega) (fun q hq => (hown4.lt q hq).1)
          go_roundw
          case rel => exact ⟨j + 1, by omega, by go_num, by rw [HSTEP.out, List.map_append, List.map_append, List.map_singleton, List.map_singleton, HAT3.out, ← HY.out]; exact hown6, hB7⟩
          case measure => simp [intOf]; omega
    · obtain rfl : j = size := by omega
      go_wp2_with fail
      go_ret
      refine ⟨_, rfl, ?_, HB.out⟩
      rw [HB0.out]
      refine Reads.of_owns (base := w.heap.size) ?_
      rw [show ((turnsTo ss m j hm).map (M.batchAt s worker round m L)).length = j by rw [List.length_map]; exact HLEN.out j]
      exact HO.out

set_option maxHeartbeats 2000000 in
theorem Asked_any (a b c d n : Int) (w : World) : Calls Try.prog 36 #[.int .i64 a, .int .i64 b, .int .i64 c, .int .i64 d, .int .i64 n] w fun e w' => e = .returned (.bool (decide (0 ≤ a ∧ a < 64 ∧ 0 ≤ b ∧ b ≤ 256 ∧ 0 ≤ c ∧ c < 64 ∧ 1 ≤ d ∧ d ≤ 64 ∧ 1 ≤ n ∧ n ≤ 4096))) ∧ w' = w := by
  by_cases q0 : 0 ≤ a
  · have d0 := decide_eq_true q0
    by_cases q1 : a < 64
    · have d1 := decide_eq_true q1
      by_cases q2 : 0 ≤ b
      · have d2 := decide_eq_true q2
        by_cases q3 : b ≤ 256
        · have d3 := decide_eq_true q3
          by_cases q4 : 0 ≤ c
          · have d4 := decide_eq_true q4
            by_cases q5 : c < 64
            · have d5 := decide_eq_true q5
              by_cases q6 : 1 ≤ d
              · have d6 := decide_eq_true q6
                by_cases q7 : d ≤ 64
                · have d7 := decide_eq_true q7
                  by_cases q8 : 1 ≤ n
                  · have d8 := decide_eq_true q8
                    by_cases q9 : n ≤ 4096
                    · have d9 := decide_eq_true q9
                      rw [decide_eq_true (by omega)]
                      go_enter Try.func36, Try.ntmps36
                      go_wp2_with fail
                      go_ret
                      exact ⟨rfl, rfl⟩
                    · have d9 := decide_eq_false q9
                      rw [decide_eq_false (by omega)]
                      go_enter Try.func36, Try.ntmps36
                      go_wp2_with fail
                      go_ret
                      exact ⟨rfl, rfl⟩
                  · have d8 := decide_eq_false q8
                    rw [decide_eq_false (by omega)]
                    go_enter Try.func36, Try.ntmps36
                    go_wp2_with fail
                    go_ret
                    exact ⟨rfl, rfl⟩
                · have d7 := decide_eq_false q7
                  rw [decide_eq_false (by omega)]
                  go_enter Try.func36, Try.ntmps36
                  go_wp2_with fail
                  go_ret
                  exact ⟨rfl, rfl⟩
              · have d6 := decide_eq_false q6
                rw [decide_eq_false (by omega)]
                go_enter Try.func36, Try.ntmps36
                go_wp2_with fail
                go_ret
                exact ⟨rfl, rfl⟩
            · have d5 := decide_eq_false q5
              rw [decide_eq_false (by omega)]
              go_enter Try.func36, Try.ntmps36
              go_wp2_with fail
              go_ret
              exact ⟨rfl, rfl⟩
          · have d4 := decide_eq_false q4
            rw [decide_eq_false (by omega)]
            go_enter Try.func36, Try.ntmps36
            go_wp2_with fail
            go_ret
            exact ⟨rfl, rfl⟩
        · have d3 := decide_eq_false q3
          rw [decide_eq_false (by omega)]
          go_enter Try.func36, Try.ntmps36
          go_wp2_with fail
          go_ret
          exact ⟨rfl, rfl⟩
      · have d2 := decide_eq_false q2
        rw [decide_eq_false (by omega)]
        go_enter Try.func36, Try.ntmps36
        go_wp2_with fail
        go_ret
        exact ⟨rfl, rfl⟩
    · have d1 := decide_eq_false q1
      rw [decide_eq_false (by omega)]
      go_enter Try.func36, Try.ntmps36
      go_wp2_with fail
      go_ret
      exact ⟨rfl, rfl⟩
  · have d0 := decide_eq_false q0
    rw [decide_eq_false (by omega)]
    go_enter Try.func36, Try.ntmps36
    go_wp2_with fail
    go_ret
    exact ⟨rfl, rfl⟩
end Go.Proofs.Ytcojiienmmmihaa
