/- Walks: Place and Back. -/
import Derived.Test.YtcojiienmmmihaaT
namespace Go.Proofs.Ytcojiienmmmihaa
open Go.RowKit Go.Joins
set_option maxRecDepth 100000
set_option linter.unusedVariables false

theorem there_net (s : Nat) (a b c : Int) (n y g cap : Nat) (w : World) (h0 : 1 ≤ M.hf n ∧ M.hf n ≤ 8) (hx : y < 2 ^ M.hf n * 2 ^ M.hf n) (hN : Net s a b c (M.hf n) (.slice (some ⟨g, 0, none⟩) 4 cap) w) :
    Calls Try.prog 50 #[.agg #[.int .i64 (M.hf n : Int), .slice (some ⟨g, 0, none⟩) 4 cap], .int .u64 (y : Int)] w fun e w' => e = .returned (.int .u64 (M.thr s a b c n y : Nat)) ∧ Below w.heap.size w w' := by
  obtain ⟨g', cap', K, M', T, hge, KK0⟩ := hN
  injection hge with hg1 hg2 hg3
  injection hg1 with hg1
  injection hg1 with hg1 hg2
  subst hg1
  exact there_any s a b c (M.hf n) y g cap K M' T w h0.1 h0.2 hx KK0.1 KK0.2.1 KK0.2.2.1 KK0.2.2.2.1 KK0.2.2.2.2.1 KK0.2.2.2.2.2
theorem here_net (s : Nat) (a b c : Int) (n y g cap : Nat) (w : World) (h0 : 1 ≤ M.hf n ∧ M.hf n ≤ 8) (hx : y < 2 ^ M.hf n * 2 ^ M.hf n) (hN : Net s a b c (M.hf n) (.slice (some ⟨g, 0, none⟩) 4 cap) w) :
    Calls Try.prog 51 #[.agg #[.int .i64 (M.hf n : Int), .slice (some ⟨g, 0, none⟩) 4 cap], .int .u64 (y : Int)] w fun e w' => e = .returned (.int .u64 (M.her s a b c n y : Nat)) ∧ Below w.heap.size w w' := by
  obtain ⟨g', cap', K, M', T, hge, KK0⟩ := hN
  injection hge with hg1 hg2 hg3
  injection hg1 with hg1
  injection hg1 with hg1 hg2
  subst hg1
  exact here_any s a b c (M.hf n) y g cap K M' T w h0.1 h0.2 hx KK0.1 KK0.2.1 KK0.2.2.1 KK0.2.2.2.1 KK0.2.2.2.2.1 KK0.2.2.2.2.2
theorem sq16 {n : Nat} (h : n ≤ 65536) : 2 ^ M.hf n * 2 ^ M.hf n ≤ 65536 := by
  have h1 := pow8 (half_hf h).2.1
  exact Nat.le_trans (Nat.mul_le_mul h1 h1) (by decide)

set_option maxHeartbeats 4000000 in
theorem Place_any (s : Nat) (a b c : Int) (n i : Nat) (w : World) (h1 : n ≤ 65536) (hi : i < n) :
    Calls Try.prog 27 #[.agg #[.int .u64 (s : Int), .int .i64 a, .int .i64 b, .int .i64 c], .int .i64 (n : Int), .int .i64 (i : Int)] w fun e w' => e = .returned (.tuple #[.int .i64 (M.plc s a b c n i : Nat), .int .i64 0]) ∧ Below w.heap.size w w' := by
  have hsq := le_sq h1
  have HN := Lib.hid (Nat.lt_of_lt_of_le hi hsq)
  have hhf' := half_hf h1
  have hhf : 1 ≤ M.hf n ∧ M.hf n ≤ 8 := ⟨hhf'.1, hhf'.2.1⟩
  clear hhf'
  obtain ⟨m0, y0, hfirst⟩ := (M.thr_turns s a b c n).first hsq hi
  have HF := Lib.hid hfirst
  clear hfirst hsq
  have hlt := Lib.hid ((M.thr_turns s a b c n).f_lt)
  go_enter Try.func27, Try.ntmps27
  go_wp2_with fail
  refine wp_scope_jumps 0 (fun a' w' => ∃ (y B8 g cap : Nat) (u0 u1 u2 u3 u4 u5 u6 u7 u8 : Value), a' = { tmps := #[.agg #[.int .u64 (s : Int), .int .i64 a, .int .i64 b, .int .i64 c], .int .i64 (n : Int), .int .i64 (i : Int), .pointer (some ⟨w.heap.size, 0, none⟩), undef, undef, .int .i64 0, .int .i64 0, .pointer (some ⟨B8, 0, none⟩), .int .u64 (y : Nat), .int .i64 (n : Int), .int .i64 (i : Int), .bool true, .bool false, .agg #[.int .u64 (s : Int), .int .i64 a, .int .i64 b, .int .i64 c], .int .i64 (n : Int), .agg #[.int .i64 (M.hf n : Int), .slice (some ⟨g, 0, none⟩) 4 cap], .int .i64 (i : Int), .int .u64 (i : Int), u0, u1, u2, u3, u4, u5, u6, u7, u8], defers := [] } ∧ M.Far (M.thr s a b c n) n i y ∧ y < 2 ^ M.hf n * 2 ^ M.hf n ∧ w.heap.size ≤ B8 ∧ w'.cell? ⟨B8, 0, none⟩ = some (.int .i64 (M.hf n : Int)) ∧ w'.cell? ⟨B8, 1, none⟩ = some (.slice (some ⟨g, 0, none⟩) 4 cap) ∧ Net s a b c (M.hf n) (.slice (some ⟨g, 0, none⟩) 4 cap) w' ∧ Below w.heap.size w w') (fun a' _ => match a'.tmps.getD 9 undef with | .int _ q => M.togo (M.thr s a b c n) n q.toNat | _ => 0) rfl ?_ ?_
  · go_wp2_with fail
    refine (right_yes _ _ _ (by omega) (by omega) (by omega) (by omega)).mono ?_
    rintro e w1 ⟨rfl, rfl⟩
    go_wp2_with fail
    refine (weave_any s a b c n _ (by omega) h1).mono ?_
    rintro e w1 ⟨h, v, rfl, hh, hnet, hb1⟩
    obtain rfl := hh.eq h1
    obtain ⟨g, cap, K, M', T, rfl, HN1⟩ := id hnet
    have HNET := Lib.hid (hnet.keep ((Below.refl w1.heap.size w1).alloc (Nat.le_refl _) (Obj.cells #[.int .i64 (M.hf n : Int), .slice (some ⟨g, 0, none⟩) 4 cap] 83)))
    have HC0 := Lib.hid (show (w1.alloc (Obj.cells #[.int .i64 (M.hf n : Int), .slice (some ⟨g, 0, none⟩) 4 cap] 83)).cell? ⟨w1.heap.size, 0, none⟩ = some (.int .i64 (M.hf n : Int)) by simp [go_sem])
    have HC1 := Lib.hid (show (w1.alloc (Obj.cells #[.int .i64 (M.hf n : Int), .slice (some ⟨g, 0, none⟩) 4 cap] 83)).cell? ⟨w1.heap.size, 1, none⟩ = some (.slice (some ⟨g, 0, none⟩) 4 cap) by simp [go_sem])
    clear HN1 hnet
    have hb0 := (((Below.refl w.heap.size w).alloc (Nat.le_refl _) (Obj.cells #[.int .u64 (s : Int), .int .i64 a, .int .i64 b, .int .i64 c] 24)).trans (hb1.mono (by simp))).alloc (by have := hb1.size; simp at this; omega) (Obj.cells #[.int .i64 (M.hf n : Int), .slice (some ⟨g, 0, none⟩) 4 cap] 83)
    have hsz1 := hb1.size
    clear hb1
    go_wp2_with fail
    go_step3
    go_wp2_with fail
    have HY := HN
    refine (there_net s a b c n i g cap _ hhf HY.out HNET.out).mono ?_
    rintro e w2 ⟨rfl, hb2⟩
    change Below _ _ w2 at hb2
    have hz := hlt.out i HY.out
    have HSTART := Lib.hid (fun h : n ≤ M.thr s a b c n i => M.far_start (f := M.thr s a b c n) h)
    have HEND := Lib.hid (fun h : M.thr s a b c n i < n => (M.plc_start (f := M.thr s a b c n) h : M.plc s a b c n i = M.thr s a b c n i))
    obtain ⟨z, hze⟩ : ∃ z, z = M.thr s a b c n i := ⟨_, rfl⟩
    rw [← hze] at hz HSTART HEND ⊢
    clear hze
    have hz16 : z < 65536 := Nat.lt_of_lt_of_le hz (sq16 h1)
    have HZ := Lib.hid hz
    clear hz
    by_cases hzn : n ≤ z
    · have hC2 : w2.cell? ⟨w1.heap.size, 0, none⟩ = some (.int .i64 (M.hf n : Int)) ∧ w2.cell? ⟨w1.heap.size, 1, none⟩ = some (.slice (some ⟨g, 0, none⟩) 4 cap) := ⟨(hb2.cell (World.block_lt_of_cell? _ _ HC0.out)).trans HC0.out, (hb2.cell (World.block_lt_of_cell? _ _ HC1.out)).trans HC1.out⟩
      have HC2 := Lib.hid hC2
      have HN2 := Lib.hid (HNET.out.keep hb2)
      clear hC2
      go_wp2_with fail
      go_step3
      simp at hsz1
      exact ⟨rfl, z, w1.heap.size, g, cap, _, _, _, _, _, _, _, _, _, rfl, HSTART.out hzn, HZ.out, by omega, HC2.out.1, HC2.out.2, HN2.out, hb0.trans (hb2.mono (by have := hb0.size; omega))⟩
    · have HP := Lib.hid (HEND.out (by omega))
      go_wp2_with fail
      simp only [Exit.jump]
      go_ret2
      rw [show (z : Int) = ((M.plc s a b c n i : Nat) : Int) from congrArg (fun q : Nat => (q : Int)) HP.out.symm]
      exact ⟨rfl, hb0.trans (hb2.mono (by have := hb0.size; omega))⟩
  · rintro a' wr ⟨y, B8, g, cap, u0, u1, u2, u3, u4, u5, u6, u7, u8, rfl, far, hy, hB8, c0, c1, hnet, hb0⟩
    have HNET := Lib.hid hnet
    have HC0 := Lib.hid c0
    have HC1 := Lib.hid c1
    have HY := Lib.hid hy
    have HFAR := Lib.hid far
    clear hy far hnet
    go_wp2_with fail
    refine (there_net s a b c n y g cap _ hhf HY.out HNET.out).mono ?_
    rintro e w2 ⟨rfl, hb2⟩
    change Below _ _ w2 at hb2
    have hz := hlt.out y HY.out
    have HSTART := Lib.hid (fun h : n ≤ M.thr s a b c n y => HFAR.out.on (f := M.thr s a b c n) h)
    have HEND := Lib.hid (fun h : M.thr s a b c n y < n => (HFAR.out.place (f := M.thr s a b c n) h : M.plc s a b c n i = M.thr s a b c n y))
    have HLESS := Lib.hid (HFAR.out.less HF.out)
    obtain ⟨z, hze⟩ : ∃ z, z = M.thr s a b c n y := ⟨_, rfl⟩
    rw [← hze] at hz HSTART HEND HLESS ⊢
    clear hze
    have hz16 : z < 65536 := Nat.lt_of_lt_of_le hz (sq16 h1)
    have HZ := Lib.hid hz
    clear hz
    by_cases hzn : n ≤ z
    · have hC2 : w2.cell? ⟨B8, 0, none⟩ = some (.int .i64 (M.hf n : Int)) ∧ w2.cell? ⟨B8, 1, none⟩ = some (.slice (some ⟨g, 0, none⟩) 4 cap) := ⟨(hb2.cell (World.block_lt_of_cell? _ _ HC0.out)).trans HC0.out, (hb2.cell (World.block_lt_of_cell? _ _ HC1.out)).trans HC1.out⟩
      have HC2 := Lib.hid hC2
      have HN2 := Lib.hid (HNET.out.keep hb2)
      clear hC2
      go_wp2_with fail
      go_step3
      refine ⟨rfl, ⟨z, B8, g, cap, _, _, _, _, _, _, _, _, _, rfl, HSTART.out hzn, HZ.out, hB8, HC2.out.1, HC2.out.2, HN2.out, hb0.trans (hb2.mono (by have := hb0.size; omega))⟩, ?_⟩
      exact HLESS.out
    · have HP := Lib.hid (HEND.out (by omega))
      go_wp2_with fail
      simp only [Exit.jump]
      go_ret2
      rw [show (z : Int) = ((M.plc s a b c n i : Nat) : Int) from congrArg (fun q : Nat => (q : Int)) HP.out.symm]
      exact ⟨rfl, hb0.trans (hb2.mono (by have := hb0.size; omega))⟩
set_option maxHeartbeats 4000000 in
theorem Back_any (s : Nat) (a b c : Int) (n i : Nat) (w : World) (h1 : n ≤ 65536) (hi : i < n) :
    Calls Try.prog 28 #[.agg #[.int .u64 (s : Int), .int .i64 a, .int .i64 b, .int .i64 c], .int .i64 (n : Int), .int .i64 (i : Int)] w fun e w' => e = .returned (.tuple #[.int .i64 (M.bck s a b c n i : Nat), .int .i64 0]) ∧ Below w.heap.size w w' := by
  have hsq := le_sq h1
  have HN := Lib.hid (Nat.lt_of_lt_of_le hi hsq)
  have hhf' := half_hf h1
  have hhf : 1 ≤ M.hf n ∧ M.hf n ≤ 8 := ⟨hhf'.1, hhf'.2.1⟩
  clear hhf'
  obtain ⟨m0, y0, hfirst⟩ := (M.thr_turns s a b c n).swap.first hsq hi
  have HF := Lib.hid hfirst
  clear hfirst hsq
  have hlt := Lib.hid ((M.thr_turns s a b c n).swap.f_lt)
  go_enter Try.func28, Try.ntmps28
  go_wp2_with fail
  refine wp_scope_jumps 0 (fun a' w' => ∃ (y B8 g cap : Nat) (u0 u1 u2 u3 u4 u5 u6 u7 u8 : Value), a' = { tmps := #[.agg #[.int .u64 (s : Int), .int .i64 a, .int .i64 b, .int .i64 c], .int .i64 (n : Int), .int .i64 (i : Int), .pointer (some ⟨w.heap.size, 0, none⟩), undef, undef, .int .i64 0, .int .i64 0, .pointer (some ⟨B8, 0, none⟩), .int .u64 (y : Nat), .int .i64 (n : Int), .int .i64 (i : Int), .bool true, .bool false, .agg #[.int .u64 (s : Int), .int .i64 a, .int .i64 b, .int .i64 c], .int .i64 (n : Int), .agg #[.int .i64 (M.hf n : Int), .slice (some ⟨g, 0, none⟩) 4 cap], .int .i64 (i : Int), .int .u64 (i : Int), u0, u1, u2, u3, u4, u5, u6, u7, u8], defers := [] } ∧ M.Far (M.her s a b c n) n i y ∧ y < 2 ^ M.hf n * 2 ^ M.hf n ∧ w.heap.size ≤ B8 ∧ w'.cell? ⟨B8, 0, none⟩ = some (.int .i64 (M.hf n : Int)) ∧ w'.cell? ⟨B8, 1, none⟩ = some (.slice (some ⟨g, 0, none⟩) 4 cap) ∧ Net s a b c (M.hf n) (.slice (some ⟨g, 0, none⟩) 4 cap) w' ∧ Below w.heap.size w w') (fun a' _ => match a'.tmps.getD 9 undef with | .int _ q => M.togo (M.her s a b c n) n q.toNat | _ => 0) rfl ?_ ?_
  · go_wp2_with fail
    refine (right_yes _ _ _ (by omega) (by omega) (by omega) (by omega)).mono ?_
    rintro e w1 ⟨rfl, rfl⟩
    go_wp2_with fail
    refine (weave_any s a b c n _ (by omega) h1).mono ?_
    rintro e w1 ⟨h, v, rfl, hh, hnet, hb1⟩
    obtain rfl := hh.eq h1
    obtain ⟨g, cap, K, M', T, rfl, HN1⟩ := id hnet
    have HNET := Lib.hid (hnet.keep ((Below.refl w1.heap.size w1).alloc (Nat.le_refl _) (Obj.cells #[.int .i64 (M.hf n : Int), .slice (some ⟨g, 0, none⟩) 4 cap] 83)))
    have HC0 := Lib.hid (show (w1.alloc (Obj.cells #[.int .i64 (M.hf n : Int), .slice (some ⟨g, 0, none⟩) 4 cap] 83)).cell? ⟨w1.heap.size, 0, none⟩ = some (.int .i64 (M.hf n : Int)) by simp [go_sem])
    have HC1 := Lib.hid (show (w1.alloc (Obj.cells #[.int .i64 (M.hf n : Int), .slice (some ⟨g, 0, none⟩) 4 cap] 83)).cell? ⟨w1.heap.size, 1, none⟩ = some (.slice (some ⟨g, 0, none⟩) 4 cap) by simp [go_sem])
    clear HN1 hnet
    have hb0 := (((Below.refl w.heap.size w).alloc (Nat.le_refl _) (Obj.cells #[.int .u64 (s : Int), .int .i64 a, .int .i64 b, .int .i64 c] 24)).trans (hb1.mono (by simp))).alloc (by have := hb1.size; simp at this; omega) (Obj.cells #[.int .i64 (M.hf n : Int), .slice (some ⟨g, 0, none⟩) 4 cap] 83)
    have hsz1 := hb1.size
    clear hb1
    go_wp2_with fail
    go_step3
    go_wp2_with fail
    have HY := HN
    refine (here_net s a b c n i g cap _ hhf HY.out HNET.out).mono ?_
    rintro e w2 ⟨rfl, hb2⟩
    change Below _ _ w2 at hb2
    have hz := hlt.out i HY.out
    have HSTART := Lib.hid (fun h : n ≤ M.her s a b c n i => M.far_start (f := M.her s a b c n) h)
    have HEND := Lib.hid (fun h : M.her s a b c n i < n => (M.plc_start (f := M.her s a b c n) h : M.bck s a b c n i = M.her s a b c n i))
    obtain ⟨z, hze⟩ : ∃ z, z = M.her s a b c n i := ⟨_, rfl⟩
    rw [← hze] at hz HSTART HEND ⊢
    clear hze
    have hz16 : z < 65536 := Nat.lt_of_lt_of_le hz (sq16 h1)
    have HZ := Lib.hid hz
    clear hz
    by_cases hzn : n ≤ z
    · have hC2 : w2.cell? ⟨w1.heap.size, 0, none⟩ = some (.int .i64 (M.hf n : Int)) ∧ w2.cell? ⟨w1.heap.size, 1, none⟩ = some (.slice (some ⟨g, 0, none⟩) 4 cap) := ⟨(hb2.cell (World.block_lt_of_cell? _ _ HC0.out)).trans HC0.out, (hb2.cell (World.block_lt_of_cell? _ _ HC1.out)).trans HC1.out⟩
      have HC2 := Lib.hid hC2
      have HN2 := Lib.hid (HNET.out.keep hb2)
      clear hC2
      go_wp2_with fail
      go_step3
      simp at hsz1
      exact ⟨rfl, z, w1.heap.size, g, cap, _, _, _, _, _, _, _, _, _, rfl, HSTART.out hzn, HZ.out, by omega, HC2.out.1, HC2.out.2, HN2.out, hb0.trans (hb2.mono (by have := hb0.size; omega))⟩
    · have HP := Lib.hid (HEND.out (by omega))
      go_wp2_with fail
      simp only [Exit.jump]
      go_ret2
      rw [show (z : Int) = ((M.bck s a b c n i : Nat) : Int) from congrArg (fun q : Nat => (q : Int)) HP.out.symm]
      exact ⟨rfl, hb0.trans (hb2.mono (by have := hb0.size; omega))⟩
  · rintro a' wr ⟨y, B8, g, cap, u0, u1, u2, u3, u4, u5, u6, u7, u8, rfl, far, hy, hB8, c0, c1, hnet, hb0⟩
    have HNET := Lib.hid hnet
    have HC0 := Lib.hid c0
    have HC1 := Lib.hid c1
    have HY := Lib.hid hy
    have HFAR := Lib.hid far
    clear hy far hnet
    go_wp2_with fail
    refine (here_net s a b c n y g cap _ hhf HY.out HNET.out).mono ?_
    rintro e w2 ⟨rfl, hb2⟩
    change Below _ _ w2 at hb2
    have hz := hlt.out y HY.out
    have HSTART := Lib.hid (fun h : n ≤ M.her s a b c n y => HFAR.out.on (f := M.her s a b c n) h)
    have HEND := Lib.hid (fun h : M.her s a b c n y < n => (HFAR.out.place (f := M.her s a b c n) h : M.bck s a b c n i = M.her s a b c n y))
    have HLESS := Lib.hid (HFAR.out.less HF.out)
    obtain ⟨z, hze⟩ : ∃ z, z = M.her s a b c n y := ⟨_, rfl⟩
    rw [← hze] at hz HSTART HEND HLESS ⊢
    clear hze
    have hz16 : z < 65536 := Nat.lt_of_lt_of_le hz (sq16 h1)
    have HZ := Lib.hid hz
    clear hz
    by_cases hzn : n ≤ z
    · have hC2 : w2.cell? ⟨B8, 0, none⟩ = some (.int .i64 (M.hf n : Int)) ∧ w2.cell? ⟨B8, 1, none⟩ = some (.slice (some ⟨g, 0, none⟩) 4 cap) := ⟨(hb2.cell (World.block_lt_of_cell? _ _ HC0.out)).trans HC0.out, (hb2.cell (World.block_lt_of_cell? _ _ HC1.out)).trans HC1.out⟩
      have HC2 := Lib.hid hC2
      have HN2 := Lib.hid (HNET.out.keep hb2)
      clear hC2
      go_wp2_with fail
      go_step3
      refine ⟨rfl, ⟨z, B8, g, cap, _, _, _, _, _, _, _, _, _, rfl, HSTART.out hzn, HZ.out, hB8, HC2.out.1, HC2.out.2, HN2.out, hb0.trans (hb2.mono (by have := hb0.size; omega))⟩, ?_⟩
      exact HLESS.out
    · have HP := Lib.hid (HEND.out (by omega))
      go_wp2_with fail
      simp only [Exit.jump]
      go_ret2
      rw [show (z : Int) = ((M.bck s a b c n i : Nat) : Int) from congrArg (fun q : Nat => (q : Int)) HP.out.symm]
      exact ⟨rfl, hb0.trans (hb2.mono (by have := hb0.size; omega))⟩

end Go.Proofs.Ytcojiienmmmihaa
