/- Walks: a number goes through the rounds, and back. -/
import Derived.Test.YtcojiienmmmihaaR
namespace Go.Proofs.Ytcojiienmmmihaa
open Go.RowKit Go.Joins
set_option maxRecDepth 100000
set_option linter.unusedVariables false

/-- So many rounds. -/
def M.runs (mix : Nat → Nat → Nat) : Nat → Nat × Nat → Nat × Nat
  | 0, p => p
  | k + 1, p => M.rnd (mix k) (M.runs mix k p)
theorem M.runs_succ (mix : Nat → Nat → Nat) (k : Nat) (p : Nat × Nat) : M.runs mix (k + 1) p = M.rnd (mix k) (M.runs mix k p) := rfl
theorem M.runs_in {b : Nat} {mix : Nat → Nat → Nat} (hm : ∀ t r, mix t r < 2 ^ b) (k : Nat) {p : Nat × Nat} (h : M.In b p) : M.In b (M.runs mix k p) := by
  induction k with
  | zero => exact h
  | succ k ih => exact M.rnd_in (hm k) ih

theorem pow8 {h : Nat} (h1 : h ≤ 8) : 2 ^ h ≤ 256 := by
  have := Nat.pow_le_pow_right (n := 2) (by omega) h1
  simpa using this
theorem sq_le {h : Nat} (h1 : h ≤ 8) : 2 ^ h * 2 ^ h ≤ 65536 := by
  have := Nat.mul_le_mul (pow8 h1) (pow8 h1)
  simpa using this
theorem low_form (x h : Nat) (hx : x < 65536) (h1 : h ≤ 8) : bits .and .u64 (x : Int) (IntKind.u64.wrap (IntKind.u64.wrap ((2 : Int) ^ h) - 1)) = (((M.fold h x).2 : Nat) : Int) := by
  rw [wrap_mask h1]
  exact and_form x h (by omega) (by omega)
theorem flat_form {h l r : Nat} (h1 : h ≤ 8) (hl : l < 2 ^ h) (hr : r < 2 ^ h) : bits .or .u64 (IntKind.u64.wrap ((l : Int) * (2 : Int) ^ h)) (r : Int) = ((M.flat h (l, r) : Nat) : Int) := by
  have h256 := pow8 h1
  have hm : l * 2 ^ h ≤ 256 * 256 := Nat.mul_le_mul (by omega) h256
  have e : ((l : Int) * (2 : Int) ^ h) = ((l * 2 ^ h : Nat) : Int) := by simp
  rw [e, wrap_u64_in _ (by omega) (by omega), bits_or_u64_nat _ _ (by omega) (by omega)]
  congr 1
  have := Nat.two_pow_add_eq_or_of_lt hr l
  unfold M.flat
  simp only
  rw [Nat.mul_comm l (2 ^ h)]
  exact this.symm
theorem high_form (x h : Nat) : (x : Int) / (2 : Int) ^ h = (((M.fold h x).1 : Nat) : Int) := by
  have e : ((2 : Int) ^ h) = ((2 ^ h : Nat) : Int) := by simp
  rw [e]; exact (Int.natCast_ediv x (2 ^ h)).symm

set_option maxHeartbeats 2000000 in
theorem there_any (s : Nat) (a b c : Int) (h x g cap K M' : Nat) (T : Nat → Nat) (w : World) (h0 : 1 ≤ h) (h1 : h ≤ 8) (hx : x < 2 ^ h * 2 ^ h)
    (hc : ∀ t, t < 4 → w.cell? ⟨g, t, none⟩ = some (clo K M' (T t)) ∧ w.cell? ⟨T t, 0, none⟩ = some (.int .i64 (t : Int)))
    (k0 : w.cell? ⟨K, 0, none⟩ = some (.int .u64 (s : Int))) (k1 : w.cell? ⟨K, 1, none⟩ = some (.int .i64 a)) (k2 : w.cell? ⟨K, 2, none⟩ = some (.int .i64 b)) (k3 : w.cell? ⟨K, 3, none⟩ = some (.int .i64 c))
    (m0 : w.cell? ⟨M', 0, none⟩ = some (.int .u64 ((2 ^ h - 1 : Nat) : Int))) :
    Calls Try.prog 50 #[.agg #[.int .i64 (h : Int), .slice (some ⟨g, 0, none⟩) 4 cap], .int .u64 (x : Int)] w fun e w' => e = .returned (.int .u64 (M.there h (M.mixh s a b c h) x : Nat)) ∧ Below w.heap.size w w' := by
  have hq4 : (h : Int) ≤ 8 := by omega
  have hq5 : (1 : Int) ≤ (h : Int) := by omega
  have HX := Lib.hid hx
  clear hx
  have HC := Lib.hid hc; have K0 := Lib.hid k0; have K1 := Lib.hid k1; have K2 := Lib.hid k2; have K3 := Lib.hid k3; have M0 := Lib.hid m0
  clear hc k0 k1 k2 k3 m0
  go_enter Try.func50, Try.ntmps50
  go_wp2_with fail
  go_quiet (fail)
  go_wp2_with fail
  rw [low_form x h (by have := HX.out; have := sq_le h1; omega) h1, high_form]
  have hbw : Below w.heap.size w ((w.alloc (Obj.cells #[.int .i64 (h : Int), .slice (some ⟨g, 0, none⟩) 4 cap] 83)).drewN nq) := below_drewN ((Below.refl _ _).alloc (Nat.le_refl _) _) _
  go_loopw [5, 6, 8, 22] (fun l r _ i wr => ∃ k : Nat, k ≤ 4 ∧ i = .int .i64 k ∧ l = .int .u64 ((M.runs (M.mixh s a b c h) k (M.fold h x)).1 : Nat) ∧ r = .int .u64 ((M.runs (M.mixh s a b c h) k (M.fold h x)).2 : Nat) ∧ Below (w.heap.size + 1) (w.alloc (Obj.cells #[.int .i64 (h : Int), .slice (some ⟨g, 0, none⟩) 4 cap] 83)) wr)
    (fun _ _ _ i _ => 4 - (intOf i).toNat)
  case atStart => exact ⟨0, by omega, rfl, rfl, rfl, below_drewN (Below.refl _ _) _⟩
  case round =>
    obtain ⟨k, hk, rfl, rfl, rfl, hB⟩ := hrel
    clear hbw
    have hin := M.runs_in (b := h) (mix := M.mixh s a b c h) (fun t r => M.mixh_lt s a b c h t r) k (M.fold_in HX.out)
    have hstep := Lib.hid (M.runs_succ (M.mixh s a b c h) k (M.fold h x))
    have hflat := Lib.hid (show k = 4 → M.flat h (M.runs (M.mixh s a b c h) k (M.fold h x)) = M.there h (M.mixh s a b c h) x from fun e => by subst e; rfl)
    obtain ⟨p, hp⟩ : ∃ p, p = M.runs (M.mixh s a b c h) k (M.fold h x) := ⟨_, rfl⟩
    rw [← hp] at hin hstep hflat ⊢
    clear hp
    obtain ⟨l, r⟩ := p
    have h256 := pow8 h1
    have hl : l < 256 := Nat.lt_of_lt_of_le hin.1 h256
    have hr : r < 256 := Nat.lt_of_lt_of_le hin.2 h256
    have hbw : Below w.heap.size w wr := ((Below.refl _ _).alloc (Nat.le_refl _) _).trans (hB.mono (by omega))
    by_cases hlt : k < 4
    · obtain ⟨c1, c2⟩ := HC.out k hlt
      have q : ∀ {p : Addr} {u : Value}, w.cell? p = some u → wr.cell? p = some u := fun {p u} hp => (hbw.cell (World.block_lt_of_cell? w p hp)).trans hp
      have d1 := q c1
      have d2 := q c2
      have d3 := q K0.out; have d4 := q K1.out; have d5 := q K2.out; have d6 := q K3.out; have d7 := q M0.out
      unfold clo at d1
      have cm := Lib.hid (mix_any s a b c h k r K (T k) M' wr hlt (by omega) (by omega) d3 d4 d5 d6 d2 d7)
      clear q c1 c2 d2 d3 d4 d5 d6 d7 hin h256
      go_wp2_with fail
      refine cm.out.mono ?_
      rintro e w1 ⟨rfl, hb1⟩
      have XF := Lib.hid (xor_form l (M.mixh s a b c h k r) (by omega) (Nat.lt_of_lt_of_le (M.mixh_lt s a b c h k r) (Nat.le_trans (pow8 h1) (by omega))))
      go_wp2_with fail
      refine ⟨⟨k + 1, by omega, by go_num, ?_, ?_, hB.trans (hb1.mono (by have := hB.size; simp at this; omega))⟩, by simp [intOf]; omega⟩
      · rw [hstep.out]; rfl
      · rw [hstep.out]; exact congrArg (Value.int .u64) XF.out
    · obtain rfl : k = 4 := by omega
      have e1 : wr.cell? ⟨w.heap.size, 0, none⟩ = some (.int .i64 (h : Int)) := by
        rw [hB.cell (p := ⟨w.heap.size, 0, none⟩) (by show w.heap.size < w.heap.size + 1; omega)]; simp [go_sem]
      have FF := Lib.hid (flat_form (l := l) (r := r) h1 hin.1 hin.2)
      have HFL := Lib.hid (hflat.out rfl)
      go_wp2_with fail
      rw [FF.out]
      go_ret
      exact ⟨congrArg (fun z : Nat => Ending.returned (.int .u64 (z : Int))) HFL.out, ((Below.refl _ _).alloc (Nat.le_refl _) _).trans (hB.mono (by omega))⟩

/-- So many rounds back. -/
def M.backs (mix : Nat → Nat → Nat) : Nat → Nat × Nat → Nat × Nat
  | 0, p => p
  | k + 1, p => M.dnr (mix (3 - k)) (M.backs mix k p)
theorem M.backs_succ (mix : Nat → Nat → Nat) (k : Nat) (p : Nat × Nat) : M.backs mix (k + 1) p = M.dnr (mix (3 - k)) (M.backs mix k p) := rfl
theorem M.backs_in {b : Nat} {mix : Nat → Nat → Nat} (hm : ∀ t r, mix t r < 2 ^ b) (k : Nat) {p : Nat × Nat} (h : M.In b p) : M.In b (M.backs mix k p) := by
  induction k with
  | zero => exact h
  | succ k ih => exact M.dnr_in (hm (3 - k)) ih

set_option maxHeartbeats 2000000 in
theorem here_any (s : Nat) (a b c : Int) (h x g cap K M' : Nat) (T : Nat → Nat) (w : World) (h0 : 1 ≤ h) (h1 : h ≤ 8) (hx : x < 2 ^ h * 2 ^ h)
    (hc : ∀ t, t < 4 → w.cell? ⟨g, t, none⟩ = some (clo K M' (T t)) ∧ w.cell? ⟨T t, 0, none⟩ = some (.int .i64 (t : Int)))
    (k0 : w.cell? ⟨K, 0, none⟩ = some (.int .u64 (s : Int))) (k1 : w.cell? ⟨K, 1, none⟩ = some (.int .i64 a)) (k2 : w.cell? ⟨K, 2, none⟩ = some (.int .i64 b)) (k3 : w.cell? ⟨K, 3, none⟩ = some (.int .i64 c))
    (m0 : w.cell? ⟨M', 0, none⟩ = some (.int .u64 ((2 ^ h - 1 : Nat) : Int))) :
    Calls Try.prog 51 #[.agg #[.int .i64 (h : Int), .slice (some ⟨g, 0, none⟩) 4 cap], .int .u64 (x : Int)] w fun e w' => e = .returned (.int .u64 (M.here h (M.mixh s a b c h) x : Nat)) ∧ Below w.heap.size w w' := by
  have hq4 : (h : Int) ≤ 8 := by omega
  have hq5 : (1 : Int) ≤ (h : Int) := by omega
  have HX := Lib.hid hx
  clear hx
  have HC := Lib.hid hc; have K0 := Lib.hid k0; have K1 := Lib.hid k1; have K2 := Lib.hid k2; have K3 := Lib.hid k3; have M0 := Lib.hid m0
  clear hc k0 k1 k2 k3 m0
  go_enter Try.func51, Try.ntmps51
  go_wp2_with fail
  go_quiet (fail)
  go_wp2_with fail
  rw [low_form x h (by have := HX.out; have := sq_le h1; omega) h1, high_form]
  have hbw : Below w.heap.size w ((w.alloc (Obj.cells #[.int .i64 (h : Int), .slice (some ⟨g, 0, none⟩) 4 cap] 83)).drewN nq) := below_drewN ((Below.refl _ _).alloc (Nat.le_refl _) _) _
  go_loopw [5, 6, 7, 8, 22] (fun l r _ _ i wr => ∃ k : Nat, k ≤ 4 ∧ i = .int .i64 k ∧ l = .int .u64 ((M.backs (M.mixh s a b c h) k (M.fold h x)).1 : Nat) ∧ r = .int .u64 ((M.backs (M.mixh s a b c h) k (M.fold h x)).2 : Nat) ∧ Below (w.heap.size + 1) (w.alloc (Obj.cells #[.int .i64 (h : Int), .slice (some ⟨g, 0, none⟩) 4 cap] 83)) wr)
    (fun _ _ _ _ i _ => 4 - (intOf i).toNat)
  case atStart => exact ⟨0, by omega, rfl, rfl, rfl, below_drewN (Below.refl _ _) _⟩
  case round =>
    obtain ⟨k, hk, rfl, rfl, rfl, hB⟩ := hrel
    clear hbw
    have hin := M.backs_in (b := h) (mix := M.mixh s a b c h) (fun t r => M.mixh_lt s a b c h t r) k (M.fold_in HX.out)
    have hstep := Lib.hid (M.backs_succ (M.mixh s a b c h) k (M.fold h x))
    have hflat := Lib.hid (show k = 4 → M.flat h (M.backs (M.mixh s a b c h) k (M.fold h x)) = M.here h (M.mixh s a b c h) x from fun e => by subst e; rfl)
    obtain ⟨p, hp⟩ : ∃ p, p = M.backs (M.mixh s a b c h) k (M.fold h x) := ⟨_, rfl⟩
    rw [← hp] at hin hstep hflat ⊢
    clear hp
    obtain ⟨l, r⟩ := p
    have h256 := pow8 h1
    have hl : l < 256 := Nat.lt_of_lt_of_le hin.1 h256
    have hr : r < 256 := Nat.lt_of_lt_of_le hin.2 h256
    have hbw : Below w.heap.size w wr := ((Below.refl _ _).alloc (Nat.le_refl _) _).trans (hB.mono (by omega))
    by_cases hlt : k < 4
    · obtain ⟨c1, c2⟩ := HC.out (3 - k) (by omega)
      have q : ∀ {p : Addr} {u : Value}, w.cell? p = some u → wr.cell? p = some u := fun {p u} hp => (hbw.cell (World.block_lt_of_cell? w p hp)).trans hp
      have d1 := q c1
      have d2 := q c2
      have d3 := q K0.out; have d4 := q K1.out; have d5 := q K2.out; have d6 := q K3.out; have d7 := q M0.out
      unfold clo at d1
      have e2 : wr.cell? ⟨w.heap.size, 1, none⟩ = some (.slice (some ⟨g, 0, none⟩) 4 cap) := by
        rw [hB.cell (p := ⟨w.heap.size, 1, none⟩) (by show w.heap.size < w.heap.size + 1; omega)]; simp [go_sem]
      have cm := Lib.hid (mix_any s a b c h (3 - k) l K (T (3 - k)) M' wr (by omega) (by omega) (by omega) d3 d4 d5 d6 d2 d7)
      clear q c1 c2 d2 d3 d4 d5 d6 d7 hin h256
      go_wp2_with fail
      refine cm.out.mono ?_
      rintro e w1 ⟨rfl, hb1⟩
      have XF := Lib.hid (xor_form r (M.mixh s a b c h (3 - k) l) (by omega) (Nat.lt_of_lt_of_le (M.mixh_lt s a b c h (3 - k) l) (Nat.le_trans (pow8 h1) (by omega))))
      go_wp2_with fail
      refine ⟨⟨k + 1, by omega, by go_num, ?_, ?_, hB.trans (hb1.mono (by have := hB.size; simp at this; omega))⟩, by simp [intOf]; omega⟩
      · rw [hstep.out]; exact congrArg (Value.int .u64) XF.out
      · rw [hstep.out]; rfl
    · obtain rfl : k = 4 := by omega
      have e1 : wr.cell? ⟨w.heap.size, 0, none⟩ = some (.int .i64 (h : Int)) := by
        rw [hB.cell (p := ⟨w.heap.size, 0, none⟩) (by show w.heap.size < w.heap.size + 1; omega)]; simp [go_sem]
      have FF := Lib.hid (flat_form (l := l) (r := r) h1 hin.1 hin.2)
      have HFL := Lib.hid (hflat.out rfl)
      go_wp2_with fail
      rw [FF.out]
      go_ret
      exact ⟨congrArg (fun z : Nat => Ending.returned (.int .u64 (z : Int))) HFL.out, ((Below.refl _ _).alloc (Nat.le_refl _) _).trans (hB.mono (by omega))⟩
end Go.Proofs.Ytcojiienmmmihaa
