/- Walks: Place and Back. -/
import Derived.Test.YtcojiienmmmihaaS
import Derived.ScopeJumps
namespace Go.Proofs.Ytcojiienmmmihaa
open Go.RowKit Go.Joins
set_option maxRecDepth 100000
set_option linter.unusedVariables false

/-- The least h, at least 1, with 2^(2 h) not below n (n up to 65536). -/
def M.hf (n : Nat) : Nat := if n ≤ 4 then 1 else if n ≤ 16 then 2 else if n ≤ 64 then 3 else if n ≤ 256 then 4 else if n ≤ 1024 then 5 else if n ≤ 4096 then 6 else if n ≤ 16384 then 7 else 8
theorem half_hf {n : Nat} (h1 : n ≤ 65536) : HalfOf n (M.hf n) := by
  unfold M.hf HalfOf
  repeat' split
  all_goals simp
  all_goals omega
theorem HalfOf.eq {n h : Nat} (h1 : n ≤ 65536) (x : HalfOf n h) : h = M.hf n := x.uniq (half_hf h1)

def M.thr (s : Nat) (a b c : Int) (n : Nat) : Nat → Nat := M.there (M.hf n) (M.mixh s a b c (M.hf n))
def M.her (s : Nat) (a b c : Int) (n : Nat) : Nat → Nat := M.here (M.hf n) (M.mixh s a b c (M.hf n))
theorem M.thr_turns (s : Nat) (a b c : Int) (n : Nat) : M.Turns (2 ^ M.hf n * 2 ^ M.hf n) (M.thr s a b c n) (M.her s a b c n) := M.turns (fun t r => M.mixh_lt s a b c (M.hf n) t r)
theorem le_sq {n : Nat} (h1 : n ≤ 65536) : n ≤ 2 ^ M.hf n * 2 ^ M.hf n := by
  have := (half_hf h1).2.2.2
  rw [← Nat.pow_add]
  rwa [show M.hf n + M.hf n = 2 * M.hf n by omega]
/-- Where a number below n goes, and which number goes to a place. -/
noncomputable def M.plc (s : Nat) (a b c : Int) (n i : Nat) : Nat := M.place (M.thr s a b c n) n i
noncomputable def M.bck (s : Nat) (a b c : Int) (n i : Nat) : Nat := M.place (M.her s a b c n) n i
theorem M.plc_lt (s : Nat) (a b c : Int) {n i : Nat} (h1 : n ≤ 65536) (hi : i < n) : M.plc s a b c n i < n := (M.thr_turns s a b c n).place_lt (le_sq h1) hi
theorem M.bck_lt (s : Nat) (a b c : Int) {n i : Nat} (h1 : n ≤ 65536) (hi : i < n) : M.bck s a b c n i < n := (M.thr_turns s a b c n).swap.place_lt (le_sq h1) hi
theorem M.bck_plc (s : Nat) (a b c : Int) {n i : Nat} (h1 : n ≤ 65536) (hi : i < n) : M.bck s a b c n (M.plc s a b c n i) = i := (M.thr_turns s a b c n).place_back (le_sq h1) hi
theorem M.plc_bck (s : Nat) (a b c : Int) {n i : Nat} (h1 : n ≤ 65536) (hi : i < n) : M.plc s a b c n (M.bck s a b c n i) = i := (M.thr_turns s a b c n).swap.place_back (le_sq h1) hi

/-- So far no number below n has come: m trips were made, y is where they led. -/
def M.Far (f : Nat → Nat) (n i y : Nat) : Prop := ∃ m, 1 ≤ m ∧ M.it f m i = y ∧ ∀ j, 1 ≤ j → j ≤ m → n ≤ M.it f j i
theorem M.Far.ge {f : Nat → Nat} {n i y : Nat} (h : M.Far f n i y) : n ≤ y := by
  obtain ⟨m, h1, h2, h3⟩ := h
  rw [← h2]; exact h3 m h1 (Nat.le_refl _)
theorem M.far_start {f : Nat → Nat} {n i : Nat} (h : n ≤ f i) : M.Far f n i (f i) := ⟨1, Nat.le_refl _, rfl, fun j h1 h2 => by
  obtain rfl : j = 1 := by omega
  exact h⟩
theorem M.Far.on {f : Nat → Nat} {n i y : Nat} (x : M.Far f n i y) (h : n ≤ f y) : M.Far f n i (f y) := by
  obtain ⟨m, h1, h2, h3⟩ := x
  refine ⟨m + 1, by omega, by rw [M.it_succ, h2], fun j hj1 hj2 => ?_⟩
  by_cases e : j = m + 1
  · subst e; rw [M.it_succ, h2]; exact h
  · exact h3 j hj1 (by omega)
theorem M.plc_start {f : Nat → Nat} {n i : Nat} (h : f i < n) : M.place f n i = f i := M.place_of (m := 1) ⟨Nat.le_refl _, rfl, h, fun j h1 h2 => by omega⟩
theorem M.Far.place {f : Nat → Nat} {n i y : Nat} (x : M.Far f n i y) (h : f y < n) : M.place f n i = f y := by
  obtain ⟨m, h1, h2, h3⟩ := x
  exact M.place_of (m := m + 1) ⟨by omega, by rw [M.it_succ, h2], h, fun j hj1 hj2 => h3 j hj1 (by omega)⟩
/-- How many trips are to come. -/
noncomputable def M.togo (f : Nat → Nat) (n y : Nat) : Nat := leastOf fun k => M.it f k y < n
theorem M.Far.less {f : Nat → Nat} {n i y m0 y0 : Nat} (x : M.Far f n i y) (h0 : M.First f n i m0 y0) : M.togo f n (f y) < M.togo f n y := by
  have hge := x.ge
  obtain ⟨m, h1, h2, h3⟩ := x
  obtain ⟨a1, a2, a3, a4⟩ := h0
  have hlt : m < m0 := by
    rcases Nat.lt_or_ge m m0 with h | h
    · exact h
    · have := h3 m0 a1 h; omega
  have hex : ∃ k, M.it f k y < n := ⟨m0 - m, by rw [← h2, ← M.it_add, show m + (m0 - m) = m0 by omega, a2]; exact a3⟩
  have hL := leastOf_spec hex
  obtain ⟨L, hLe⟩ : ∃ L, L = M.togo f n y := ⟨_, rfl⟩
  have p1 : M.it f L y < n := by rw [hLe]; exact hL.1
  have p2 : L ≠ 0 := by rintro rfl; simp [M.it] at p1; omega
  obtain ⟨L', rfl⟩ : ∃ L', L = L' + 1 := ⟨L - 1, by omega⟩
  have p3 : M.it f L' (f y) < n := p1
  have p4 : M.togo f n (f y) ≤ L' := (leastOf_spec (p := fun k => M.it f k (f y) < n) ⟨L', p3⟩).2 L' p3
  omega

theorem Place_no (s : Nat) (a b c n i : Int) (w : World) (h : n < 1 ∨ 65536 < n ∨ i < 0 ∨ n ≤ i) :
    Calls Try.prog 27 #[.agg #[.int .u64 (s : Int), .int .i64 a, .int .i64 b, .int .i64 c], .int .i64 n, .int .i64 i] w fun e w' => e = .returned (.tuple #[.int .i64 0, .int .i64 2]) ∧ Below w.heap.size w w' := by
  have H := Lib.hid h
  clear h
  go_enter Try.func27, Try.ntmps27
  go_wp2_with fail
  refine wp_scope_jumps 0 (fun _ _ => False) (fun _ _ => 0) rfl ?_ (fun _ _ h => h.elim)
  go_wp2_with fail
  refine (right_no n i _ H.out).mono ?_
  rintro e w1 ⟨rfl, rfl⟩
  go_wp2_with fail
  simp only [Exit.jump]
  go_ret2
  exact ⟨rfl, (Below.refl _ _).alloc (Nat.le_refl _) _⟩

end Go.Proofs.Ytcojiienmmmihaa
