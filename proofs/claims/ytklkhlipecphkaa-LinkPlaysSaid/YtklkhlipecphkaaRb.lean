/- Retry: the walks over a clock. -/
import Derived.Test.YtklkhlipecphkaaRa
namespace Go.Proofs.Ytklkhlipecphkaa
open Go.RowKit Go.Joins Go.Maps
set_option maxRecDepth 100000
set_option linter.unusedVariables false

theorem Clk.c0 {N B M : Nat} {base most now : Int} {f : Int → Option (Int × Int)} {n : Nat} {w : World} (h : Clk N B M base most now f n w) : w.cell? ⟨B, 0, none⟩ = some (.int .i64 base) := by simp [World.cell?, h.box]
theorem Clk.c1 {N B M : Nat} {base most now : Int} {f : Int → Option (Int × Int)} {n : Nat} {w : World} (h : Clk N B M base most now f n w) : w.cell? ⟨B, 1, none⟩ = some (.int .i64 most) := by simp [World.cell?, h.box]
theorem Clk.c2 {N B M : Nat} {base most now : Int} {f : Int → Option (Int × Int)} {n : Nat} {w : World} (h : Clk N B M base most now f n w) : w.cell? ⟨B, 2, none⟩ = some (.int .i64 now) := by simp [World.cell?, h.box]
theorem Clk.c3 {N B M : Nat} {base most now : Int} {f : Int → Option (Int × Int)} {n : Nat} {w : World} (h : Clk N B M base most now f n w) : w.cell? ⟨B, 3, none⟩ = some (.map (some M)) := by simp [World.cell?, h.box]
theorem Clk.fz {N B M : Nat} {base most now : Int} {f : Int → Option (Int × Int)} {n : Nat} {w : World} (h : Clk N B M base most now f n w) : w.frozen? ⟨B, 2, none⟩ = false := by simp [World.frozen?, h.box]
theorem Clk.lt {N B M : Nat} {base most now : Int} {f : Int → Option (Int × Int)} {n : Nat} {w : World} (h : Clk N B M base most now f n w) : B < w.heap.size := (Array.getElem?_eq_some_iff.1 h.box).1
theorem Clk.kept {N B M : Nat} {base most now : Int} {f : Int → Option (Int × Int)} {n : Nat} {w w' : World} {row : Option Nat} (h : Clk N B M base most now f n w) (hg : w.grownBy w' row) (h1 : some B ≠ row) (h2 : some M ≠ row) : Clk N B M base most now f n w' :=
  ⟨h.hB, h.hM, h.ne, (hg.block B h.lt h1).trans h.box, timers_kept h.map hg h2⟩
theorem grown_of_below {w w' : World} (h : Below w.heap.size w w') : w.grownBy w' none := ⟨h.os, h.tape, h.output, h.size, fun k hk _ => h.block k hk⟩
theorem Clk.below {N B M : Nat} {base most now : Int} {f : Int → Option (Int × Int)} {n : Nat} {w w' : World} (h : Clk N B M base most now f n w) (hb : Below w.heap.size w w') : Clk N B M base most now f n w' := h.kept (grown_of_below hb) (by simp) (by simp)
theorem Clk.mono {N N' B M : Nat} {base most now : Int} {f : Int → Option (Int × Int)} {n : Nat} {w : World} (h : Clk N B M base most now f n w) (hn : N' ≤ N) : Clk N' B M base most now f n w := ⟨Nat.le_trans hn h.hB, Nat.le_trans hn h.hM, h.ne, h.box, h.map⟩
theorem Clk.put {N B M : Nat} {base most now : Int} {f f' : Int → Option (Int × Int)} {n n' : Nat} {w w' : World} (h : Clk N B M base most now f n w) (hg : w.grownBy w' (some M)) (hm : World.timers w' M n' f') : Clk N B M base most now f' n' w' :=
  ⟨h.hB, h.hM, h.ne, (hg.block B h.lt (by intro e; exact h.ne (by cases e; rfl))).trans h.box, hm⟩

theorem is_yes {N B M : Nat} {base most now : Int} {f : Int → Option (Int × Int)} {n : Nat} {w : World} (h : Clk N B M base most now f n w) (hb : 0 < base) :
    Calls Try.prog 52 #[.pointer (some ⟨B, 0, none⟩)] w fun e w' => e = .returned (.bool true) ∧ w' = w := by
  have c0 := h.c0
  have d1 : decide (0 < base) = true := decide_eq_true hb
  clear h
  go_enter Try.func52, Try.ntmps52
  go_wp2_with fail
  go_ret
  exact ⟨rfl, rfl⟩
theorem is_none (w : World) : Calls Try.prog 52 #[.pointer none] w fun e w' => e = .returned (.bool false) ∧ w' = w := by
  go_enter Try.func52, Try.ntmps52
  go_wp2_with fail
  go_ret
  exact ⟨rfl, rfl⟩
theorem is_zero (B : Nat) (w : World) (h : w.cell? ⟨B, 0, none⟩ = some (.int .i64 0)) : Calls Try.prog 52 #[.pointer (some ⟨B, 0, none⟩)] w fun e w' => e = .returned (.bool false) ∧ w' = w := by
  go_enter Try.func52, Try.ntmps52
  go_wp2_with fail
  go_ret
  exact ⟨rfl, rfl⟩

set_option maxHeartbeats 1000000 in
theorem Start_yes {N B M : Nat} {base most now : Int} {f : Int → Option (Int × Int)} {n : Nat} {w : World} (h : Clk N B M base most now f n w) (hb : 0 < base) (hn : n < maxLen) {x : Int} (hx : (Lit.int .i64 x).wf = true) :
    Calls Try.prog 23 #[.pointer (some ⟨B, 0, none⟩), .int .i64 x] w fun e w' => e = .returned (.tuple #[]) ∧ Clk N B M base most now (upd f x (some (now, 0))) (n + 1) w' ∧ Below N w w' := by
  have HIS := Lib.hid (is_yes h hb)
  have c2 := h.c2
  have c3 := h.c3
  obtain ⟨w2, hup, hm2, hg2⟩ := timers_put (w := w.drew) (b := M) (n := n) (f := f) h.map hn hx (now, 0)
  have h2 := Clk.put (w := w.drew) ⟨h.hB, h.hM, h.ne, h.box, h.map⟩ hg2 hm2
  have e2 := h2.c2
  have e3 := h2.c3
  have hbel : Below N w w2 := (Below.drew (Below.refl N w)).grown hg2 (Nat.le_trans h.hB (Nat.le_of_lt h.lt)) (fun q hq => by cases hq; exact h.hM)
  have H2 := Lib.hid h2
  have HBEL := Lib.hid hbel
  clear h hm2 hg2 h2 hbel
  unfold tVal at hup
  go_enter Try.func23, Try.ntmps23
  go_wp2_with fail
  refine HIS.out.mono ?_
  rintro e w1 ⟨rfl, rfl⟩
  go_wp2_with fail
  go_region_held (fun w' => w'.cell? ⟨B, 2, none⟩ = some (.int .i64 now) ∧ w'.cell? ⟨B, 3, none⟩ = some (.map (some M))) (go_keep) (fail)
  go_wp2_with fail
  exact bodyPost_end (results_none rfl _ _ _) rfl ⟨rfl, H2.out, HBEL.out⟩

def dueB (f : Int → Option (Int × Int)) (x now : Int) : Bool := match f x with | some p => decide (p.1 ≤ now) | none => false

set_option maxHeartbeats 1000000 in
theorem Due_yes {N B M : Nat} {base most now : Int} {f : Int → Option (Int × Int)} {n : Nat} {w : World} (h : Clk N B M base most now f n w) (hb : 0 < base) {x : Int} (hx : (Lit.int .i64 x).wf = true) :
    Calls Try.prog 27 #[.pointer (some ⟨B, 0, none⟩), .int .i64 x] w fun e w' => e = .returned (.bool (dueB f x now)) ∧ Below w.heap.size w w' := by
  have HIS := Lib.hid (is_yes h hb)
  have c3 := h.c3
  have hl := timers_look h.map hx
  unfold dueB
  cases hf : f x with
  | none =>
    rw [hf] at hl
    simp only [Option.getD_none, Option.isSome_none, tVal] at hl
    have hk := h.below ((Below.refl _ w).alloc (Nat.le_refl _) (Obj.cells #[.int .i64 0, .int .i64 0] 97))
    have e2 := hk.c2
    clear h hk hf
    go_enter Try.func27, Try.ntmps27
    go_wp2_with fail
    refine HIS.out.mono ?_
    rintro e w1 ⟨rfl, rfl⟩
    go_wp2_with fail
    go_region
    all_goals
      go_wp2_with fail
      go_ret
      exact ⟨rfl, ((Below.refl _ _).alloc (Nat.le_refl _) _).drew⟩
  | some p =>
    obtain ⟨a, t⟩ := p
    rw [hf] at hl
    simp only [Option.getD_some, Option.isSome_some, tVal] at hl
    have hk := h.below ((Below.refl _ w).alloc (Nat.le_refl _) (Obj.cells #[.int .i64 a, .int .i64 t] 97))
    have e2 := hk.c2
    clear h hk hf
    go_enter Try.func27, Try.ntmps27
    go_wp2_with fail
    refine HIS.out.mono ?_
    rintro e w1 ⟨rfl, rfl⟩
    go_wp2_with fail
    go_region
    all_goals
      go_wp2_with fail
      go_ret
      exact ⟨rfl, ((Below.refl _ _).alloc (Nat.le_refl _) _).drew⟩

theorem Tries_yes {N B M : Nat} {base most now : Int} {f : Int → Option (Int × Int)} {n : Nat} {w : World} (h : Clk N B M base most now f n w) (hb : 0 < base) {x : Int} (hx : (Lit.int .i64 x).wf = true) :
    Calls Try.prog 26 #[.pointer (some ⟨B, 0, none⟩), .int .i64 x] w fun e w' => e = .returned (.int .i64 ((f x).getD (0, 0)).2) ∧ w' = w := by
  have HIS := Lib.hid (is_yes h hb)
  have c3 := h.c3
  have hl := timers_look1 h.map hx
  obtain ⟨⟨a, t⟩, hp⟩ : ∃ p, p = (f x).getD (0, 0) := ⟨_, rfl⟩
  rw [← hp] at hl ⊢
  simp only [tVal] at hl ⊢
  have hf1 : (Instr.field 97 (Value.agg #[.int .i64 a, .int .i64 t]) 1).run Try.prog w = .ok (.int .i64 t) w := by kernel_rfl
  clear h hp
  go_enter Try.func26, Try.ntmps26
  go_wp2_with fail
  refine HIS.out.mono ?_
  rintro e w1 ⟨rfl, rfl⟩
  go_wp2_with fail
  go_ret
  exact ⟨rfl, rfl⟩

theorem Now_yes {N B M : Nat} {base most now : Int} {f : Int → Option (Int × Int)} {n : Nat} {w : World} (h : Clk N B M base most now f n w) (hb : 0 < base) :
    Calls Try.prog 32 #[.pointer (some ⟨B, 0, none⟩)] w fun e w' => e = .returned (.int .i64 now) ∧ w' = w := by
  have HIS := Lib.hid (is_yes h hb)
  have c2 := h.c2
  clear h
  go_enter Try.func32, Try.ntmps32
  go_wp2_with fail
  refine HIS.out.mono ?_
  rintro e w1 ⟨rfl, rfl⟩
  go_wp2_with fail
  go_ret
  exact ⟨rfl, rfl⟩

theorem grown_set (w : World) (a : Addr) (v : Value) : w.grownBy (w.setCell a v) (some a.block) := ⟨rfl, rfl, rfl, by simp [World.setCell], fun k _ hk => heap_setCell_other w a k v (fun e => hk (by rw [e]))⟩

theorem Clk.ticked {N B M : Nat} {base most now : Int} {f : Int → Option (Int × Int)} {n : Nat} {w : World} (h : Clk N B M base most now f n w) (now' : Int) : Clk N B M base most now' f n (w.setCell ⟨B, 2, none⟩ (.int .i64 now')) := by
  refine ⟨h.hB, h.hM, h.ne, ?_, timers_kept h.map (grown_set w ⟨B, 2, none⟩ _) (by intro e; exact h.ne (Option.some.inj e).symm)⟩
  exact (heap_setCell_same w B 2 _ _ _ h.box).trans rfl

theorem Tick_yes {N B M : Nat} {base most now : Int} {f : Int → Option (Int × Int)} {n : Nat} {w : World} (h : Clk N B M base most now f n w) (hb : 0 < base) {k : Int} (h0 : 0 ≤ k) (h1 : k ≤ 1099511627776) (h2 : now + k ≤ 1125899906842624) (h3 : 0 ≤ now) :
    Calls Try.prog 28 #[.pointer (some ⟨B, 0, none⟩), .int .i64 k] w fun e w' => e = .returned (.int .i64 0) ∧ Clk N B M base most (now + k) f n w' ∧ Below N w w' := by
  have HIS := Lib.hid (is_yes h hb)
  have c2 := h.c2
  have fz := h.fz
  have d1 : decide (k < 0) = false := decide_eq_false (by omega)
  have d2 : decide ((1099511627776 : Int) < k) = false := decide_eq_false (by omega)
  have d3 : decide (1125899906842624 - now < k) = false := decide_eq_false (by omega)
  have HT := Lib.hid (h.ticked (now + k))
  have HN := Lib.hid (((Below.refl N w).setCell (p := ⟨B, 2, none⟩) h.hB (.int .i64 (now + k))))
  clear h
  go_enter Try.func28, Try.ntmps28
  go_wp2_with fail
  refine HIS.out.mono ?_
  rintro e w1 ⟨rfl, rfl⟩
  go_wp2_with fail
  go_ret
  exact ⟨rfl, HT.out, HN.out⟩
theorem right_any (a b : Int) (w : World) : Calls Try.prog 46 #[.int .i64 a, .int .i64 b] w fun e w' => e = .returned (.bool (decide (1 ≤ a ∧ a ≤ 1024 ∧ a ≤ b ∧ b ≤ 1024))) ∧ w' = w := by
  by_cases q0 : 1 ≤ a
  · have d0 := decide_eq_true q0
    by_cases q1 : a ≤ 1024
    · have d1 := decide_eq_true q1
      by_cases q2 : a ≤ b
      · have d2 := decide_eq_true q2
        by_cases q3 : b ≤ 1024
        · have d3 := decide_eq_true q3
          rw [decide_eq_true (by omega)]
          go_enter Try.func46, Try.ntmps46
          go_wp2_with fail
          go_ret
          exact ⟨rfl, rfl⟩
        · have d3 := decide_eq_false q3
          rw [decide_eq_false (by omega)]
          go_enter Try.func46, Try.ntmps46
          go_wp2_with fail
          go_ret
          exact ⟨rfl, rfl⟩
      · have d2 := decide_eq_false q2
        rw [decide_eq_false (by omega)]
        go_enter Try.func46, Try.ntmps46
        go_wp2_with fail
        go_ret
        exact ⟨rfl, rfl⟩
    · have d1 := decide_eq_false q1
      rw [decide_eq_false (by omega)]
      go_enter Try.func46, Try.ntmps46
      go_wp2_with fail
      go_ret
      exact ⟨rfl, rfl⟩
  · have d0 := decide_eq_false q0
    rw [decide_eq_false (by omega)]
    go_enter Try.func46, Try.ntmps46
    go_wp2_with fail
    go_ret
    exact ⟨rfl, rfl⟩

theorem rRight_any (a b : Int) (w : World) : Calls Try.prog 14 #[.int .i64 a, .int .i64 b] w fun e w' => e = .returned (.bool (decide (1 ≤ a ∧ a ≤ 1024 ∧ a ≤ b ∧ b ≤ 1024))) ∧ w' = w := by
  by_cases q0 : 1 ≤ a
  · have d0 := decide_eq_true q0
    by_cases q1 : a ≤ 1024
    · have d1 := decide_eq_true q1
      by_cases q2 : a ≤ b
      · have d2 := decide_eq_true q2
        by_cases q3 : b ≤ 1024
        · have d3 := decide_eq_true q3
          rw [decide_eq_true (by omega)]
          go_enter Try.func14, Try.ntmps14
          go_wp2_with fail
          go_ret
          exact ⟨rfl, rfl⟩
        · have d3 := decide_eq_false q3
          rw [decide_eq_false (by omega)]
          go_enter Try.func14, Try.ntmps14
          go_wp2_with fail
          go_ret
          exact ⟨rfl, rfl⟩
      · have d2 := decide_eq_false q2
        rw [decide_eq_false (by omega)]
        go_enter Try.func14, Try.ntmps14
        go_wp2_with fail
        go_ret
        exact ⟨rfl, rfl⟩
    · have d1 := decide_eq_false q1
      rw [decide_eq_false (by omega)]
      go_enter Try.func14, Try.ntmps14
      go_wp2_with fail
      go_ret
      exact ⟨rfl, rfl⟩
  · have d0 := decide_eq_false q0
    rw [decide_eq_false (by omega)]
    go_enter Try.func14, Try.ntmps14
    go_wp2_with fail
    go_ret
    exact ⟨rfl, rfl⟩


/-- How long a wait is. -/
def M.wait (base most n : Nat) : Nat := min (base * 2 ^ (n - 1)) most
theorem M.wait_le (base most n : Nat) : M.wait base most n ≤ most := Nat.min_le_right _ _
theorem M.wait_stop {base most n i b : Nat} (hb : b = base * 2 ^ i) (hi : i ≤ n - 1) (h : most ≤ b) : min b most = M.wait base most n := by
  have h2 : b ≤ base * 2 ^ (n - 1) := by
    rw [hb]; exact Nat.mul_le_mul_left _ (Nat.pow_le_pow_right (by omega) hi)
  unfold M.wait
  rw [Nat.min_eq_right h, Nat.min_eq_right (Nat.le_trans h h2)]
theorem M.wait_end {base most n i b : Nat} (hb : b = base * 2 ^ i) (hi : i = n - 1) : min b most = M.wait base most n := by
  unfold M.wait; rw [hb, hi]
theorem M.dbl {base i b : Nat} (hb : b = base * 2 ^ i) : b * 2 = base * 2 ^ (i + 1) := by rw [hb, Nat.pow_succ, Nat.mul_assoc]

set_option maxHeartbeats 1000000 in
theorem wait_any (base most n : Nat) (w : World) (h0 : 1 ≤ base) (h1 : base ≤ 1024) (h2 : most ≤ 1024) (h3 : 1 ≤ n) (h4 : n < 9223372036854775808) :
    Calls Try.prog 47 #[.int .i64 (base : Int), .int .i64 (most : Int), .int .i64 (n : Int)] w fun e w' => e = .returned (.int .i64 (M.wait base most n : Nat)) ∧ w' = w := by
  have HSTOP := Lib.hid (fun i b hb hi h => M.wait_stop (base := base) (most := most) (n := n) (i := i) (b := b) hb hi h)
  have HEND := Lib.hid (fun i b hb hi => M.wait_end (base := base) (most := most) (n := n) (i := i) (b := b) hb hi)
  have HDBL := Lib.hid (fun i b hb => M.dbl (base := base) (i := i) (b := b) hb)
  obtain ⟨r, hr⟩ : ∃ r, r = M.wait base most n := ⟨_, rfl⟩
  rw [← hr] at HSTOP HEND ⊢
  clear hr
  obtain ⟨m, hm⟩ : ∃ m, n = m + 1 := ⟨n - 1, by omega⟩
  subst hm
  have hm1 : ((m + 1 : Nat) : Int) - 1 = (m : Int) := by omega
  go_enter Try.func47, Try.ntmps47
  go_wp2_with fail
  go_loopw [0, 9] (fun x i wr => ∃ j b : Nat, j ≤ m ∧ i = .int .i64 (j : Int) ∧ x = .int .i64 (b : Int) ∧ b = base * 2 ^ j ∧ b ≤ 2048 ∧ wr = w) (fun _ i _ => m - (intOf i).toNat)
  case atStart => exact ⟨0, base, Nat.zero_le _, rfl, rfl, by simp, by omega, rfl⟩
  case round =>
    obtain ⟨j, b, hj, rfl, rfl, hb, hb2, rfl⟩ := hrel
    have HB := Lib.hid hb
    clear hb
    by_cases hlt : j < m
    · by_cases hge : most ≤ b
      · have e1 : decide ((most : Int) ≤ (b : Int)) = true := decide_eq_true (by omega)
        have hmn := HSTOP.out j b HB.out (by omega) hge
        rw [Nat.min_eq_right hge] at hmn
        subst hmn
        go_wp2_with fail
        all_goals
          go_ret
          exact ⟨congrArg (fun z : Int => Ending.returned (Value.int .i64 z)) (by omega), rfl⟩
      · have e1 : decide ((most : Int) ≤ (b : Int)) = false := decide_eq_false (by omega)
        go_wp2_with fail
        go_roundw
        case rel => exact ⟨j + 1, b * 2, by omega, by go_num, by go_num, HDBL.out j b HB.out, by omega, trivial⟩
        case measure => simp [intOf]; omega
    · have hmn := HEND.out j b HB.out (by omega)
      subst hmn
      go_wp2_with fail
      all_goals
        go_ret
        exact ⟨congrArg (fun z : Int => Ending.returned (Value.int .i64 z)) (by omega), rfl⟩

theorem M.big {base j : Nat} (h : base ≤ 1024) (hj : j ≤ 19) : base * 2 ^ j ≤ 536870912 := by
  have h1 : 2 ^ j ≤ 2 ^ 19 := Nat.pow_le_pow_right (by omega) hj
  have h2 : base * 2 ^ j ≤ 1024 * 2 ^ 19 := Nat.mul_le_mul h h1
  exact h2
theorem M.far {base : Nat} (h : 1 ≤ base) : 524288 ≤ base * 2 ^ 19 := Nat.mul_le_mul h (Nat.le_refl (2 ^ 19))

set_option maxHeartbeats 1000000 in
theorem rWait_any (base most n : Nat) (w : World) (h0 : 1 ≤ base) (h1 : base ≤ 1024) (h2 : most ≤ 1024) (h3 : 1 ≤ n) (h4 : n < 9223372036854775808) :
    Calls Try.prog 15 #[.int .i64 (base : Int), .int .i64 (most : Int), .int .i64 (n : Int)] w fun e w' => e = .returned (.int .i64 (M.wait base most n : Nat)) ∧ w' = w := by
  have HSTOP := Lib.hid (fun i b hb hi h => M.wait_stop (base := base) (most := most) (n := n) (i := i) (b := b) hb hi h)
  have HEND := Lib.hid (fun i b hb hi => M.wait_end (base := base) (most := most) (n := n) (i := i) (b := b) hb hi)
  have HDBL := Lib.hid (fun i b hb => M.dbl (base := base) (i := i) (b := b) hb)
  have HBIG := Lib.hid (fun j hj => M.big (base := base) (j := j) h1 hj)
  have HFAR := Lib.hid (M.far h0)
  obtain ⟨r, hr⟩ : ∃ r, r = M.wait base most n := ⟨_, rfl⟩
  rw [← hr] at HSTOP HEND ⊢
  clear hr
  go_enter Try.func15, Try.ntmps15
  go_wp2_with fail
  go_loopw [7, 8] (fun x i wr => ∃ j b : Nat, j + 1 ≤ n ∧ j ≤ 19 ∧ i = .int .i64 ((j + 1 : Nat) : Int) ∧ x = .int .i64 (b : Int) ∧ b = base * 2 ^ j ∧ b ≤ 536870912 ∧ wr = w) (fun _ i _ => 20 - (intOf i).toNat)
  case atStart => exact ⟨0, base, by omega, by omega, rfl, rfl, by simp, by omega, rfl⟩
  case round =>
    obtain ⟨j, b, hj, hj19, rfl, rfl, hb, hb2, rfl⟩ := hrel
    have HB := Lib.hid hb
    clear hb
    obtain ⟨k, hk⟩ : ∃ k, k = j + 1 := ⟨_, rfl⟩
    rw [← hk]
    have fin : ∀ (hfin : j = n - 1 ∨ (j = 19 ∧ j ≤ n - 1)), min b most = r := fun hfin => by
      rcases hfin with h | ⟨h, h'⟩
      · exact HEND.out j b HB.out h
      · refine HSTOP.out j b HB.out h' ?_
        have := HFAR.out
        have e := HB.out
        rw [h] at e
        omega
    have FIN := Lib.hid fin
    clear fin
    by_cases hlt : k < n
    · have q1 : decide ((k : Int) < (n : Int)) = true := decide_eq_true (by omega)
      by_cases h20 : k < 20
      · have q2 : decide ((k : Int) < 20) = true := decide_eq_true (by omega)
        have hd := HDBL.out j b HB.out
        have hbg := HBIG.out (j + 1) (by omega)
        rw [← hd] at hbg
        have HD := Lib.hid hd
        clear hd
        go_wp2_with fail
        go_roundw
        case rel => exact ⟨j + 1, 2 * b, by omega, by omega, by go_num, by go_num, by rw [Nat.mul_comm]; exact HD.out, by omega, trivial⟩
        case measure => simp [intOf]; omega
      · have q2 : decide ((k : Int) < 20) = false := decide_eq_false (by omega)
        have hf := FIN.out (.inr ⟨by omega, by omega⟩)
        by_cases hbm : most < b
        · have q3 : decide ((most : Int) < (b : Int)) = true := decide_eq_true (by omega)
          go_wp2_with fail
          go_ret
          exact ⟨congrArg (fun z : Int => Ending.returned (Value.int .i64 z)) (by omega), rfl⟩
        · have q3 : decide ((most : Int) < (b : Int)) = false := decide_eq_false (by omega)
          go_wp2_with fail
          go_ret
          exact ⟨congrArg (fun z : Int => Ending.returned (Value.int .i64 z)) (by omega), rfl⟩
    · have q1 : decide ((k : Int) < (n : Int)) = false := decide_eq_false (by omega)
      have hf := FIN.out (.inl (by omega))
      by_cases hbm : most < b
      · have q3 : decide ((most : Int) < (b : Int)) = true := decide_eq_true (by omega)
        go_wp2_with fail
        go_ret
        exact ⟨congrArg (fun z : Int => Ending.returned (Value.int .i64 z)) (by omega), rfl⟩
      · have q3 : decide ((most : Int) < (b : Int)) = false := decide_eq_false (by omega)
        go_wp2_with fail
        go_ret
        exact ⟨congrArg (fun z : Int => Ending.returned (Value.int .i64 z)) (by omega), rfl⟩

theorem Wait_yes (base most n : Nat) (w : World) (h0 : 1 ≤ base) (h1 : base ≤ most) (h2 : most ≤ 1024) (h3 : 1 ≤ n) (h4 : n < 9223372036854775808) :
    Calls Try.prog 13 #[.int .i64 (base : Int), .int .i64 (most : Int), .int .i64 (n : Int)] w fun e w' => e = .returned (.tuple #[.int .i64 (M.wait base most n : Nat), .int .i64 0]) ∧ w' = w := by
  have HD := Lib.hid (decide_eq_true (show 1 ≤ (base : Int) ∧ (base : Int) ≤ 1024 ∧ (base : Int) ≤ (most : Int) ∧ (most : Int) ≤ 1024 by omega))
  have d1 : decide ((n : Int) < 1) = false := decide_eq_false (by omega)
  go_enter Try.func13, Try.ntmps13
  go_wp2_with fail
  refine (right_any _ _ _).mono ?_
  rintro e w1 ⟨rfl, rfl⟩
  rw [HD.out]
  go_wp2_with fail
  refine (wait_any base most n _ h0 (by omega) h2 h3 h4).mono ?_
  rintro e w2 ⟨rfl, rfl⟩
  go_wp2_with fail
  go_ret2
  exact ⟨rfl, rfl⟩
theorem Wait_no1 (base most n : Int) (w : World) (h : ¬ (1 ≤ base ∧ base ≤ 1024 ∧ base ≤ most ∧ most ≤ 1024)) :
    Calls Try.prog 13 #[.int .i64 base, .int .i64 most, .int .i64 n] w fun e w' => e = .returned (.tuple #[.int .i64 0, .int .i64 2]) ∧ w' = w := by
  have HD := Lib.hid (decide_eq_false h)
  go_enter Try.func13, Try.ntmps13
  go_wp2_with fail
  refine (right_any _ _ _).mono ?_
  rintro e w1 ⟨rfl, rfl⟩
  rw [HD.out]
  go_wp2_with fail
  go_ret2
  exact ⟨rfl, rfl⟩
theorem Wait_no2 (base most n : Int) (w : World) (h : (1 ≤ base ∧ base ≤ 1024 ∧ base ≤ most ∧ most ≤ 1024)) (hn : n < 1) :
    Calls Try.prog 13 #[.int .i64 base, .int .i64 most, .int .i64 n] w fun e w' => e = .returned (.tuple #[.int .i64 0, .int .i64 2]) ∧ w' = w := by
  have HD := Lib.hid (decide_eq_true h)
  have d1 := decide_eq_true hn
  go_enter Try.func13, Try.ntmps13
  go_wp2_with fail
  refine (right_any _ _ _).mono ?_
  rintro e w1 ⟨rfl, rfl⟩
  rw [HD.out]
  go_wp2_with fail
  go_ret2
  exact ⟨rfl, rfl⟩

theorem New_yes (base most : Nat) (w : World) (h0 : 1 ≤ base) (h1 : base ≤ most) (h2 : most ≤ 1024) :
    Calls Try.prog 22 #[.int .i64 (base : Int), .int .i64 (most : Int)] w fun e w' => ∃ B M, e = .returned (.tuple #[.pointer (some ⟨B, 0, none⟩), .int .i64 0]) ∧ Clk w.heap.size B M (base : Int) (most : Int) 0 (fun _ => none) 0 w' ∧ Below w.heap.size w w' := by
  have HD := Lib.hid (decide_eq_true (show 1 ≤ (base : Int) ∧ (base : Int) ≤ 1024 ∧ (base : Int) ≤ (most : Int) ∧ (most : Int) ≤ 1024 by omega))
  have hmm := @run_makeMap Try.prog
  go_enter Try.func22, Try.ntmps22
  go_wp2_with fail
  refine (right_any _ _ _).mono ?_
  rintro e w1 ⟨rfl, rfl⟩
  rw [HD.out]
  go_wp2_with fail
  go_ret2
  refine ⟨_, w1.heap.size, rfl, ⟨by simp, Nat.le_refl _, by simp, ?_, timers_kept (timers_made w1) (World.grownBy_alloc _ _ none) (by simp)⟩, ((Below.refl _ _).alloc (Nat.le_refl _) _).alloc (by simp) _⟩
  have := (MapKept.heap_alloc (w1.alloc (.map #[] 0)) (.cells #[.int .i64 (base : Int), .int .i64 (most : Int), .int .i64 0, .map (some w1.heap.size)] 70)).1
  rw [World.size_alloc] at this
  exact this

set_option maxHeartbeats 2000000 in
theorem Tried_yes {N B Mb base most t : Nat} {now a : Int} {f : Int → Option (Int × Int)} {n : Nat} {w : World} (h : Clk N B Mb (base : Int) (most : Int) now f n w) (h0 : 1 ≤ base) (h1 : base ≤ most) (h2 : most ≤ 1024) (hn : n < maxLen) {x : Int} (hx : (Lit.int .i64 x).wf = true)
    (hf : f x = some (a, (t : Int))) (ht : t < 1000000) (hnow0 : 0 ≤ now) (hnow : now ≤ 1125899906842624) :
    Calls Try.prog 24 #[.pointer (some ⟨B, 0, none⟩), .int .i64 x] w fun e w' => e = .returned (.int .i64 0) ∧ Clk N B Mb (base : Int) (most : Int) now (upd f x (some (now + (M.wait base most (t + 1) : Nat), ((t + 1 : Nat) : Int)))) (n + 1) w' ∧ Below N w w' := by
  have HIS := Lib.hid (is_yes h (by omega))
  have c3 := h.c3
  have hl := timers_look h.map hx
  rw [hf] at hl
  simp only [Option.getD_some, Option.isSome_some, tVal] at hl
  have hwl := M.wait_le base most (t + 1)
  have HWAIT := Lib.hid (fun W => wait_any base most (t + 1) W h0 (by omega) h2 (by omega) (by omega))
  obtain ⟨v, hv⟩ : ∃ v, v = M.wait base most (t + 1) := ⟨_, rfl⟩
  rw [← hv] at hwl HWAIT ⊢
  have hN := h.hB
  have hNs : N ≤ w.heap.size := Nat.le_trans h.hB (Nat.le_of_lt h.lt)
  have hneB : w.heap.size ≠ B := Nat.ne_of_gt h.lt
  have hneM : w.heap.size ≠ Mb := Nat.ne_of_gt (timers_lt h.map)
  obtain ⟨W2, hW2⟩ : ∃ W2, W2 = w.alloc (Obj.cells #[.int .i64 a, .int .i64 ((t : Int) + 1)] 97) := ⟨_, rfl⟩
  have hk2 : Clk N B Mb (base : Int) (most : Int) now f n W2 := by rw [hW2]; exact h.below ((Below.refl _ w).alloc (Nat.le_refl _) _)
  have hB2 : Below N w W2 := by rw [hW2]; exact (Below.refl _ w).alloc hNs _
  obtain ⟨W3, hW3⟩ : ∃ W3, W3 = W2.setCell ⟨w.heap.size, 0, none⟩ (.int .i64 (now + (v : Int))) := ⟨_, rfl⟩
  have hk3 : Clk N B Mb (base : Int) (most : Int) now f n W3 := by
    rw [hW3]
    exact hk2.kept (grown_set _ _ _) (by intro e; exact hneB (Option.some.inj e).symm) (by intro e; exact hneM (Option.some.inj e).symm)
  have hB3 : Below N w W3 := by rw [hW3]; exact hB2.setCell hNs _
  obtain ⟨w4, hup, hm4, hg4⟩ := timers_put (w := W3.drew.drew) (b := Mb) (n := n) (f := f) hk3.map hn hx (now + (v : Int), ((t + 1 : Nat) : Int))
  have hk4 := Clk.put (w := W3.drew.drew) ⟨hk3.hB, hk3.hM, hk3.ne, hk3.box, hk3.map⟩ hg4 hm4
  have hB4 : Below N w w4 := hB3.drew.drew.grown hg4 (Nat.le_trans hk3.hB (Nat.le_of_lt hk3.lt)) (fun q hq => by cases hq; exact hk3.hM)
  have b1 : W2.cell? ⟨w.heap.size, 1, none⟩ = some (.int .i64 ((t : Int) + 1)) := by rw [hW2]; simp [go_sem]
  have b0 : W2.cell? ⟨w.heap.size, 0, none⟩ = some (.int .i64 a) := by rw [hW2]; simp [go_sem]
  have f2 : W2.frozen? ⟨w.heap.size, 0, none⟩ = false := by rw [hW2]; simp [go_sem]
  have p1 : W3.cell? ⟨w.heap.size, 1, none⟩ = some (.int .i64 ((t : Int) + 1)) := by rw [hW3, World.cell?_setCell_other _ _ _ _ (by simp)]; exact b1
  have p0 : W3.cell? ⟨w.heap.size, 0, none⟩ = some (.int .i64 (now + (v : Int))) := by rw [hW3]; exact World.cell?_setCell_same _ _ _ b0
  have b20 := hk2.c0; have b21 := hk2.c1; have b22 := hk2.c2
  have b33 := hk3.c3
  have b30 := hk3.c0; have b31 := hk3.c1; have b32 := hk3.c2
  have b43 := hk4.c3
  have q1 : w4.cell? ⟨w.heap.size, 1, none⟩ = some (.int .i64 ((t : Int) + 1)) := (World.cell?_of_block (a := ⟨w.heap.size, 1, none⟩) (hg4.block _ (World.block_lt_of_cell? _ _ p1) (by intro e; exact hneM (Option.some.inj e)))).trans p1
  have q0 : w4.cell? ⟨w.heap.size, 0, none⟩ = some (.int .i64 (now + (v : Int))) := (World.cell?_of_block (a := ⟨w.heap.size, 0, none⟩) (hg4.block _ (World.block_lt_of_cell? _ _ p0) (by intro e; exact hneM (Option.some.inj e)))).trans p0
  unfold tVal at hup
  dsimp only at hup
  rw [show ((t + 1 : Nat) : Int) = (t : Int) + 1 by omega] at hup hk4 ⊢
  have hwr : IntKind.i64.wrap (now + (v : Int)) = now + (v : Int) := by
    rw [IntKind.wrap_i64]; omega
  have HK4 := Lib.hid hk4
  have HB4 := Lib.hid hB4
  clear h hf hk2 hB2 hk3 hB3 hk4 hB4 hm4 hg4 hv
  have HW2 := Lib.hid hW2; have HW3 := Lib.hid hW3
  clear hW2 hW3
  go_enter Try.func24, Try.ntmps24
  go_wp2_with fail
  refine HIS.out.mono ?_
  rintro e w1 ⟨rfl, rfl⟩
  go_wp2_with fail
  rw [← HW2.out]
  go_region_held (fun w' => w'.cell? ⟨B, 0, none⟩ = some (.int .i64 (base : Int)) ∧ w'.cell? ⟨B, 1, none⟩ = some (.int .i64 (most : Int)) ∧ w'.cell? ⟨B, 2, none⟩ = some (.int .i64 now) ∧ w'.cell? ⟨w1.heap.size, 1, none⟩ = some (.int .i64 ((t : Int) + 1))) (first | exact ⟨b20, b21, b22, b1⟩ | (rw [← HW3.out]; exact ⟨b30, b31, b32, p1⟩)) (first | (go_at_call 47; refine (HWAIT.out _).mono ?_; rintro e w' ⟨rfl, rfl⟩))
  rw [← HW3.out]
  go_wp2_with fail
  go_region_held (fun w' => w'.cell? ⟨B, 3, none⟩ = some (.map (some Mb)) ∧ w'.cell? ⟨w1.heap.size, 0, none⟩ = some (.int .i64 (now + (v : Int))) ∧ w'.cell? ⟨w1.heap.size, 1, none⟩ = some (.int .i64 ((t : Int) + 1))) (first | exact ⟨b33, p0, p1⟩ | exact ⟨b43, q0, q1⟩) (fail)
  go_wp2_with fail
  go_ret
  exact ⟨rfl, HK4.out, HB4.out⟩
end Go.Proofs.Ytklkhlipecphkaa
