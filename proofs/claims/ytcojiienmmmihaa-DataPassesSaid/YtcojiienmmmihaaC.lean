/- Walks: the reference's Product and Below. -/
import Derived.Test.YtcojiienmmmihaaB
import Derived.Lib.Hide
namespace Go.Proofs.Ytcojiienmmmihaa
open Go.RowKit Go.Joins
set_option maxRecDepth 100000
attribute [local go_sem] setCell_drewN alloc_drewN

/-- Six digits lie in a block. -/
theorem six_cells {w : World} {g : Nat} {f : Nat → Nat} (h : w.heap[g]? = some (.cells #[.int .u64 (f 0 : Nat), .int .u64 (f 1 : Nat), .int .u64 (f 2 : Nat), .int .u64 (f 3 : Nat), .int .u64 (f 4 : Nat), .int .u64 (f 5 : Nat)] 71 (0, 0))) : w.cell? ⟨g, 0, none⟩ = some (.int .u64 (f 0 : Nat)) ∧ w.cell? ⟨g, 1, none⟩ = some (.int .u64 (f 1 : Nat)) ∧ w.cell? ⟨g, 2, none⟩ = some (.int .u64 (f 2 : Nat)) ∧ w.cell? ⟨g, 3, none⟩ = some (.int .u64 (f 3 : Nat)) ∧ w.cell? ⟨g, 4, none⟩ = some (.int .u64 (f 4 : Nat)) ∧ w.cell? ⟨g, 5, none⟩ = some (.int .u64 (f 5 : Nat)) :=
  ⟨by simp [World.cell?, h], by simp [World.cell?, h], by simp [World.cell?, h], by simp [World.cell?, h], by simp [World.cell?, h], by simp [World.cell?, h]⟩
theorem six_free {w : World} {g : Nat} {f : Nat → Nat} (h : w.heap[g]? = some (.cells #[.int .u64 (f 0 : Nat), .int .u64 (f 1 : Nat), .int .u64 (f 2 : Nat), .int .u64 (f 3 : Nat), .int .u64 (f 4 : Nat), .int .u64 (f 5 : Nat)] 71 (0, 0))) : w.frozen? ⟨g, 0, none⟩ = false ∧ w.frozen? ⟨g, 1, none⟩ = false ∧ w.frozen? ⟨g, 2, none⟩ = false ∧ w.frozen? ⟨g, 3, none⟩ = false ∧ w.frozen? ⟨g, 4, none⟩ = false ∧ w.frozen? ⟨g, 5, none⟩ = false :=
  ⟨unfrozen_of_block h _, unfrozen_of_block h _, unfrozen_of_block h _, unfrozen_of_block h _, unfrozen_of_block h _, unfrozen_of_block h _⟩

/-- Six digits f lie in block t, one of the call's own (w0: the world in which it began). -/
def S6 (w0 : World) (t : Nat) (f : Nat → Nat) (w : World) : Prop := (w.cell? ⟨t, 0, none⟩ = some (.int .u64 (f 0 : Nat)) ∧ w.cell? ⟨t, 1, none⟩ = some (.int .u64 (f 1 : Nat)) ∧ w.cell? ⟨t, 2, none⟩ = some (.int .u64 (f 2 : Nat)) ∧ w.cell? ⟨t, 3, none⟩ = some (.int .u64 (f 3 : Nat)) ∧ w.cell? ⟨t, 4, none⟩ = some (.int .u64 (f 4 : Nat)) ∧ w.cell? ⟨t, 5, none⟩ = some (.int .u64 (f 5 : Nat))) ∧ (w.frozen? ⟨t, 0, none⟩ = false ∧ w.frozen? ⟨t, 1, none⟩ = false ∧ w.frozen? ⟨t, 2, none⟩ = false ∧ w.frozen? ⟨t, 3, none⟩ = false ∧ w.frozen? ⟨t, 4, none⟩ = false ∧ w.frozen? ⟨t, 5, none⟩ = false) ∧ (w0.heap.size ≤ t ∧ t < w.heap.size) ∧ Below w0.heap.size w0 w
theorem S6.drew {w0 w : World} {t : Nat} {f : Nat → Nat} (h : S6 w0 t f w) : S6 w0 t f w.drew := ⟨h.1, h.2.1, h.2.2.1, Below.drew h.2.2.2⟩
theorem S6.keep {w0 w1 w2 : World} {t : Nat} {f : Nat → Nat} (h : S6 w0 t f w1) (hb : Below w1.heap.size w1 w2) : S6 w0 t f w2 := by
  obtain ⟨⟨h0, h1, h2, h3, h4, h5⟩, ⟨z0, z1, z2, z3, z4, z5⟩, hl, hw⟩ := h
  have hs := hw.size
  have hs2 := hb.size
  have e := fun o => hb.cell (p := ⟨t, o, none⟩) hl.2
  have z := fun o => hb.frozen (p := ⟨t, o, none⟩) hl.2
  exact ⟨⟨by rw [e]; exact h0, by rw [e]; exact h1, by rw [e]; exact h2, by rw [e]; exact h3, by rw [e]; exact h4, by rw [e]; exact h5⟩,
    ⟨by rw [z]; exact z0, by rw [z]; exact z1, by rw [z]; exact z2, by rw [z]; exact z3, by rw [z]; exact z4, by rw [z]; exact z5⟩, ⟨hl.1, by omega⟩, hw.trans (hb.mono hs)⟩
theorem S6.stored {w0 w : World} {t : Nat} {f g : Nat → Nat} (h : S6 w0 t f w) : S6 w0 t g ((((((w.setCell ⟨t, 0, none⟩ (.int .u64 (g 0 : Nat))).setCell ⟨t, 1, none⟩ (.int .u64 (g 1 : Nat))).setCell ⟨t, 2, none⟩ (.int .u64 (g 2 : Nat))).setCell ⟨t, 3, none⟩ (.int .u64 (g 3 : Nat))).setCell ⟨t, 4, none⟩ (.int .u64 (g 4 : Nat))).setCell ⟨t, 5, none⟩ (.int .u64 (g 5 : Nat))) := by
  obtain ⟨⟨h0, h1, h2, h3, h4, h5⟩, ⟨z0, z1, z2, z3, z4, z5⟩, hl, hw⟩ := h
  refine ⟨?_, ?_, ?_, ?_⟩
  · simp [go_sem, h0, h1, h2, h3, h4, h5]
  · simp [go_sem, z0, z1, z2, z3, z4, z5]
  · simpa using hl
  · exact (((((hw.setCell hl.1 _).setCell hl.1 _).setCell hl.1 _).setCell hl.1 _).setCell hl.1 _).setCell hl.1 _
theorem S6.aside {w0 w : World} {t r : Nat} {f g : Nat → Nat} (h : S6 w0 r f w) (ht : w0.heap.size ≤ t) (hne : t ≠ r) : S6 w0 r f ((((((w.setCell ⟨t, 0, none⟩ (.int .u64 (g 0 : Nat))).setCell ⟨t, 1, none⟩ (.int .u64 (g 1 : Nat))).setCell ⟨t, 2, none⟩ (.int .u64 (g 2 : Nat))).setCell ⟨t, 3, none⟩ (.int .u64 (g 3 : Nat))).setCell ⟨t, 4, none⟩ (.int .u64 (g 4 : Nat))).setCell ⟨t, 5, none⟩ (.int .u64 (g 5 : Nat))) := by
  obtain ⟨⟨h0, h1, h2, h3, h4, h5⟩, ⟨z0, z1, z2, z3, z4, z5⟩, hl, hw⟩ := h
  refine ⟨?_, ?_, ?_, ?_⟩
  · simp [go_sem, h0, h1, h2, h3, h4, h5]
  · simp [go_sem, z0, z1, z2, z3, z4, z5]
  · simpa using hl
  · exact (((((hw.setCell ht _).setCell ht _).setCell ht _).setCell ht _).setCell ht _).setCell ht _

theorem arg2 (x b : Nat) (hx : x ≤ 4294967295) (hb : b < 18446744073709551616) : IntKind.u64.wrap ((x : Int) * IntKind.u64.wrap ((b : Int).tdiv 4294967296)) = ((x * (b / 4294967296) : Nat) : Int) := by
  rw [tdivN b hb]; exact mulh_form _ _ hx (by omega)
theorem arg2' (x b : Nat) (hx : x ≤ 4294967295) (hb : b < 18446744073709551616) : IntKind.u64.wrap ((x : Int) * ((b : Int) / 4294967296)) = ((x * (b / 4294967296) : Nat) : Int) := by
  rw [divN]; exact mulh_form _ _ hx (by omega)

theorem arg2'' (x b : Nat) (hx : x ≤ 4294967295) (hb : b < 18446744073709551616) : IntKind.u64.wrap ((x : Int) * IntKind.u64.wrap ((b : Int) / 4294967296)) = ((x * (b / 4294967296) : Nat) : Int) := by
  rw [divN, wrap_u64_in (((b / 4294967296 : Nat) : Int)) (by omega) (by omega)]; exact mulh_form _ _ hx (by omega)

set_option maxHeartbeats 1000000 in
theorem Product_any (a b : Nat) (w : World) (ha : a < 18446744073709551616) (hb : b < 18446744073709551616) :
    Calls Try.prog 43 #[.int .u64 a, .int .u64 b] w fun e w' => e = .returned (.agg #[.int .u64 (M.product a b 0 : Nat), .int .u64 (M.product a b 1 : Nat), .int .u64 (M.product a b 2 : Nat), .int .u64 (M.product a b 3 : Nat), .int .u64 (M.product a b 4 : Nat), .int .u64 (M.product a b 5 : Nat)]) ∧ Below w.heap.size w w' := by
  have l0 : a % 4294967296 ≤ 4294967295 := by omega
  have l1 : a / 4294967296 ≤ 4294967295 := by omega
  have r0 : b % 4294967296 ≤ 4294967295 := by omega
  have r1 : b / 4294967296 ≤ 4294967295 := by omega
  have m0 := M.half_mul_le l0 r0
  have m1 := M.half_mul_le l1 r0
  have m2 := M.half_mul_le l0 r1
  have m3 := M.half_mul_le l1 r1
  obtain ⟨f0, hf0⟩ : ∃ f, f = M.one64 (a % 4294967296 * (b % 4294967296)) 0 := ⟨_, rfl⟩
  obtain ⟨f1, hf1⟩ : ∃ f, f = M.one64 (a / 4294967296 * (b % 4294967296)) 1 := ⟨_, rfl⟩
  obtain ⟨f2, hf2⟩ : ∃ f, f = M.one64 (a % 4294967296 * (b / 4294967296)) 1 := ⟨_, rfl⟩
  obtain ⟨f3, hf3⟩ : ∃ f, f = M.one64 (a / 4294967296 * (b / 4294967296)) 2 := ⟨_, rfl⟩
  have p0 : ∀ i, f0 i < 4294967296 := by rw [hf0]; exact M.one64_lt (by omega)
  have p1 : ∀ i, f1 i < 4294967296 := by rw [hf1]; exact M.one64_lt (by omega)
  have p2 : ∀ i, f2 i < 4294967296 := by rw [hf2]; exact M.one64_lt (by omega)
  have p3 : ∀ i, f3 i < 4294967296 := by rw [hf3]; exact M.one64_lt (by omega)
  have c0 : ∀ w : World, Calls Try.prog 57 #[.int .u64 (IntKind.u64.wrap ((a : Int) % 4294967296 * ((b : Int) % 4294967296))), .int .i64 0] w fun e w' => e = .returned (.agg #[.int .u64 (f0 0 : Nat), .int .u64 (f0 1 : Nat), .int .u64 (f0 2 : Nat), .int .u64 (f0 3 : Nat), .int .u64 (f0 4 : Nat), .int .u64 (f0 5 : Nat)]) ∧ Below w.heap.size w w' := fun w => by
    rw [hf0]; exact One64_at _ _ _ 0 _ (by rw [modN, modN]; exact mulh_form _ _ l0 r0) rfl (by omega) (by omega)
  have c1 : ∀ w : World, Calls Try.prog 57 #[.int .u64 (IntKind.u64.wrap ((a : Int) / 4294967296 * ((b : Int) % 4294967296))), .int .i64 1] w fun e w' => e = .returned (.agg #[.int .u64 (f1 0 : Nat), .int .u64 (f1 1 : Nat), .int .u64 (f1 2 : Nat), .int .u64 (f1 3 : Nat), .int .u64 (f1 4 : Nat), .int .u64 (f1 5 : Nat)]) ∧ Below w.heap.size w w' := fun w => by
    rw [hf1]; exact One64_at _ _ _ 1 _ (by rw [divN, modN]; exact mulh_form _ _ l1 r0) rfl (by omega) (by omega)
  have c2 : ∀ (x p : Int) (w : World), (x = IntKind.u64.wrap ((a : Int) % 4294967296 * IntKind.u64.wrap ((b : Int).tdiv 4294967296)) ∨ x = IntKind.u64.wrap ((a : Int) % 4294967296 * ((b : Int) / 4294967296)) ∨ x = IntKind.u64.wrap ((a : Int) % 4294967296 * IntKind.u64.wrap ((b : Int) / 4294967296))) → p = 1 → Calls Try.prog 57 #[.int .u64 x, .int .i64 p] w fun e w' => e = .returned (.agg #[.int .u64 (f2 0 : Nat), .int .u64 (f2 1 : Nat), .int .u64 (f2 2 : Nat), .int .u64 (f2 3 : Nat), .int .u64 (f2 4 : Nat), .int .u64 (f2 5 : Nat)]) ∧ Below w.heap.size w w' := fun x p w hx hp => by
    rw [hf2]
    refine One64_at _ _ _ 1 _ ?_ hp (by omega) (by omega)
    rw [modN] at hx
    rcases hx with hx | hx | hx
    · rw [hx]; exact arg2 _ _ l0 hb
    · rw [hx]; exact arg2' _ _ l0 hb
    · rw [hx]; exact arg2'' _ _ l0 hb
  have c3 : ∀ (x p : Int) (w : World), (x = IntKind.u64.wrap ((a : Int) / 4294967296 * IntKind.u64.wrap ((b : Int).tdiv 4294967296)) ∨ x = IntKind.u64.wrap ((a : Int) / 4294967296 * ((b : Int) / 4294967296)) ∨ x = IntKind.u64.wrap ((a : Int) / 4294967296 * IntKind.u64.wrap ((b : Int) / 4294967296))) → p = 2 → Calls Try.prog 57 #[.int .u64 x, .int .i64 p] w fun e w' => e = .returned (.agg #[.int .u64 (f3 0 : Nat), .int .u64 (f3 1 : Nat), .int .u64 (f3 2 : Nat), .int .u64 (f3 3 : Nat), .int .u64 (f3 4 : Nat), .int .u64 (f3 5 : Nat)]) ∧ Below w.heap.size w w' := fun x p w hx hp => by
    rw [hf3]
    refine One64_at _ _ _ 2 _ ?_ hp (by omega) (by omega)
    rw [show (a : Int) / 4294967296 = ((a / 4294967296 : Nat) : Int) from divN a] at hx
    rcases hx with hx | hx | hx
    · rw [hx]; exact arg2 _ _ l1 hb
    · rw [hx]; exact arg2' _ _ l1 hb
    · rw [hx]; exact arg2'' _ _ l1 hb
  have hres : M.product a b = M.dig (M.dig (M.dig f0 f1) f2) f3 := by rw [hf0, hf1, hf2, hf3]; rfl
  rw [hres]
  clear hres hf0 hf1 hf2 hf3 m0 m1 m2 m3 l0 l1 r0 r1
  have C0 := Lib.hid c0; have C1 := Lib.hid c1; have C2 := Lib.hid c2; have C3 := Lib.hid c3
  clear c0 c1 c2 c3
  have P := Lib.hid (And.intro p0 (And.intro p1 (And.intro p2 p3)))
  clear p0 p1 p2 p3
  go_enter Try.func43, Try.ntmps43
  go_wp2_with fail
  refine (C0.out _).mono ?_
  rintro e w1 ⟨rfl, hb1⟩
  go_wp2_with fail
  refine (C1.out _).mono ?_
  rintro e w2 ⟨rfl, hb2⟩
  go_wp2_with fail
  refine (Plus_any _ _ _ P.out.1 P.out.2.1).mono ?_
  rintro e w3 ⟨rfl, hb3⟩
  go_wp2_with fail
  have q1 := hb1.size
  have q2 := hb2.size
  have q3 := hb3.size
  simp at q1
  have hB : Below w.heap.size w (w3.alloc (Obj.cells #[.int .u64 (M.dig f0 f1 0 : Nat), .int .u64 (M.dig f0 f1 1 : Nat), .int .u64 (M.dig f0 f1 2 : Nat), .int .u64 (M.dig f0 f1 3 : Nat), .int .u64 (M.dig f0 f1 4 : Nat), .int .u64 (M.dig f0 f1 5 : Nat)] 71)) :=
    ((((Below.refl _ _).alloc (Nat.le_refl _) _).trans (hb1.mono (by simp))).trans ((hb2.mono (by omega)).trans (hb3.mono (by omega)))).alloc (by omega) _
  have hT : (w3.alloc (Obj.cells #[.int .u64 (M.dig f0 f1 0 : Nat), .int .u64 (M.dig f0 f1 1 : Nat), .int .u64 (M.dig f0 f1 2 : Nat), .int .u64 (M.dig f0 f1 3 : Nat), .int .u64 (M.dig f0 f1 4 : Nat), .int .u64 (M.dig f0 f1 5 : Nat)] 71)).heap[w3.heap.size]? = some (.cells #[.int .u64 (M.dig f0 f1 0 : Nat), .int .u64 (M.dig f0 f1 1 : Nat), .int .u64 (M.dig f0 f1 2 : Nat), .int .u64 (M.dig f0 f1 3 : Nat), .int .u64 (M.dig f0 f1 4 : Nat), .int .u64 (M.dig f0 f1 5 : Nat)] 71 (0, 0)) := heap_alloc_new _ _
  have hR : (w3.alloc (Obj.cells #[.int .u64 (M.dig f0 f1 0 : Nat), .int .u64 (M.dig f0 f1 1 : Nat), .int .u64 (M.dig f0 f1 2 : Nat), .int .u64 (M.dig f0 f1 3 : Nat), .int .u64 (M.dig f0 f1 4 : Nat), .int .u64 (M.dig f0 f1 5 : Nat)] 71)).heap[w.heap.size]? = some (.cells #[.int .u64 0, .int .u64 0, .int .u64 0, .int .u64 0, .int .u64 0, .int .u64 0] 71 (0, 0)) := by
    rw [Below.heap_alloc _ _ _ (by omega), hb3.block _ (by omega), hb2.block _ (by omega), hb1.block _ (by simp)]
    exact heap_alloc_new _ _
  have hs : w3.heap.size < (w3.alloc (Obj.cells #[.int .u64 (M.dig f0 f1 0 : Nat), .int .u64 (M.dig f0 f1 1 : Nat), .int .u64 (M.dig f0 f1 2 : Nat), .int .u64 (M.dig f0 f1 3 : Nat), .int .u64 (M.dig f0 f1 4 : Nat), .int .u64 (M.dig f0 f1 5 : Nat)] 71)).heap.size := by simp
  have hwt : w.heap.size < w3.heap.size := by omega
  clear hb1 hb2 hb3 q1 q2 q3
  generalize w3.alloc (Obj.cells #[.int .u64 (M.dig f0 f1 0 : Nat), .int .u64 (M.dig f0 f1 1 : Nat), .int .u64 (M.dig f0 f1 2 : Nat), .int .u64 (M.dig f0 f1 3 : Nat), .int .u64 (M.dig f0 f1 4 : Nat), .int .u64 (M.dig f0 f1 5 : Nat)] 71) = W at *
  generalize w3.heap.size = t at *
  have hZ : S6 w w.heap.size (fun _ => 0) W := ⟨six_cells (f := fun _ => 0) hR, six_free (f := fun _ => 0) hR, ⟨Nat.le_refl _, by omega⟩, hB⟩
  have hS : S6 w t (M.dig f0 f1) W := ⟨six_cells hT, six_free hT, ⟨by omega, hs⟩, hB⟩
  clear hR hT hB hs
  obtain ⟨⟨k0, k1, k2, k3, k4, k5⟩, ⟨z0, z1, z2, z3, z4, z5⟩, _, _⟩ := id hS
  go_region_with (first
    | (go_at_call 57; refine (C2.out _ _ _ (by with_reducible first | exact Or.inr (Or.inr rfl) | exact Or.inl rfl | exact Or.inr (Or.inl rfl)) rfl).mono ?_; rintro e w5 ⟨rfl, hb5⟩; have hS5 := hS.drew.keep hb5; have hZ5 := hZ.drew.keep hb5; obtain ⟨⟨k50, k51, k52, k53, k54, k55⟩, _, _⟩ := id hS5)
    | (go_at_call 56; refine (Plus_any _ _ _ (M.dig_lt _ _) P.out.2.2.1).mono ?_; rintro e w6 ⟨rfl, hb6⟩; have hS6 := hS5.keep hb6; have hZ6 := hZ5.keep hb6; obtain ⟨⟨k60, k61, k62, k63, k64, k65⟩, ⟨z60, z61, z62, z63, z64, z65⟩, _, _⟩ := id hS6))
  all_goals
    have hS7 := hS6.stored (g := M.dig (M.dig f0 f1) f2)
    have hZ7 := hZ6.aside (g := M.dig (M.dig f0 f1) f2) hS6.2.2.1.1 (by omega)
    clear hS hZ k0 k1 k2 k3 k4 k5 z0 z1 z2 z3 z4 z5 hS5 hZ5 k50 k51 k52 k53 k54 k55 hS6 hZ6 k60 k61 k62 k63 k64 k65 z60 z61 z62 z63 z64 z65 hb5 hb6
    generalize ((((((w6.setCell ⟨t, 0, none⟩ (.int .u64 (M.dig (M.dig f0 f1) f2 0 : Nat))).setCell ⟨t, 1, none⟩ (.int .u64 (M.dig (M.dig f0 f1) f2 1 : Nat))).setCell ⟨t, 2, none⟩ (.int .u64 (M.dig (M.dig f0 f1) f2 2 : Nat))).setCell ⟨t, 3, none⟩ (.int .u64 (M.dig (M.dig f0 f1) f2 3 : Nat))).setCell ⟨t, 4, none⟩ (.int .u64 (M.dig (M.dig f0 f1) f2 4 : Nat))).setCell ⟨t, 5, none⟩ (.int .u64 (M.dig (M.dig f0 f1) f2 5 : Nat))) = W7 at *
    obtain ⟨⟨k0, k1, k2, k3, k4, k5⟩, ⟨z0, z1, z2, z3, z4, z5⟩, _, _⟩ := id hS7
    go_wp2_with fail
    go_region_with (first
      | (go_at_call 57; refine (C3.out _ _ _ (by with_reducible first | exact Or.inr (Or.inr rfl) | exact Or.inl rfl | exact Or.inr (Or.inl rfl)) rfl).mono ?_; rintro e w8 ⟨rfl, hb8⟩; have hS8 := hS7.drew.keep hb8; have hZ8 := hZ7.drew.keep hb8; obtain ⟨⟨k80, k81, k82, k83, k84, k85⟩, _, _⟩ := id hS8)
      | (go_at_call 56; refine (Plus_any _ _ _ (M.dig_lt _ _) P.out.2.2.2).mono ?_; rintro e w9 ⟨rfl, hb9⟩; have hZ9 := hZ8.keep hb9; obtain ⟨⟨k90, k91, k92, k93, k94, k95⟩, ⟨z90, z91, z92, z93, z94, z95⟩, _, _⟩ := id hZ9))
  all_goals
    have hZ10 := hZ9.stored (g := M.dig (M.dig (M.dig f0 f1) f2) f3)
    generalize ((((((w9.setCell ⟨w.heap.size, 0, none⟩ (.int .u64 (M.dig (M.dig (M.dig f0 f1) f2) f3 0 : Nat))).setCell ⟨w.heap.size, 1, none⟩ (.int .u64 (M.dig (M.dig (M.dig f0 f1) f2) f3 1 : Nat))).setCell ⟨w.heap.size, 2, none⟩ (.int .u64 (M.dig (M.dig (M.dig f0 f1) f2) f3 2 : Nat))).setCell ⟨w.heap.size, 3, none⟩ (.int .u64 (M.dig (M.dig (M.dig f0 f1) f2) f3 3 : Nat))).setCell ⟨w.heap.size, 4, none⟩ (.int .u64 (M.dig (M.dig (M.dig f0 f1) f2) f3 4 : Nat))).setCell ⟨w.heap.size, 5, none⟩ (.int .u64 (M.dig (M.dig (M.dig f0 f1) f2) f3 5 : Nat))) = W9 at *
    obtain ⟨⟨k0, k1, k2, k3, k4, k5⟩, ⟨z0, z1, z2, z3, z4, z5⟩, _, hbel⟩ := id hZ10
    go_wp2_with fail
    exact bodyPost_ret (by simp [results, Try.results43, go_sem, k0, k1, k2, k3, k4, k5]) rfl ⟨rfl, hbel⟩

end Go.Proofs.Ytcojiienmmmihaa
