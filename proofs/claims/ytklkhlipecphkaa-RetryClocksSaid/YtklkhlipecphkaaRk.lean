/- Retry: the document's clock: Tried, Tick. -/
import Derived.Test.YtklkhlipecphkaaRj
namespace Go.Proofs.Ytklkhlipecphkaa
open Go.RowKit Go.Joins Go.Maps
set_option maxRecDepth 100000
set_option linter.unusedVariables false

theorem rTick_yes {N B : Nat} {v : Value} {base most now : Int} {L : List Tm} {w : World} (h : Ref N B v base most now L w) {k : Int} (h0 : 0 ≤ k) (h1 : k ≤ 1099511627776) (h2 : now + k ≤ 1125899906842624) (h3 : 0 ≤ now) :
    Calls Try.prog 36 #[.pointer (some ⟨B, 0, none⟩), .int .i64 k] w fun e w' => e = .returned (.int .i64 0) ∧ Ref N B v base most (now + k) L w' ∧ Below N w w' ∧ Keeps isClk w w' := by
  have c2 := h.c2
  have fz := h.fz 2
  have d1 : decide (k < 0) = false := decide_eq_false (by omega)
  have d2 : decide ((1099511627776 : Int) < k) = false := decide_eq_false (by omega)
  have d3 : decide (1125899906842624 - k < now) = false := decide_eq_false (by omega)
  have hst : Ref N B v base most (now + k) L (w.setCell ⟨B, 2, none⟩ (.int .i64 (now + k))) := by
    refine ⟨h.hB, (heap_setCell_same w B 2 _ _ _ h.box).trans rfl, h.row.kept (grown_set _ _ _) (.inr h.not_row.symm)⟩
  have HST := Lib.hid hst
  have HBS := Lib.hid ((Below.refl N w).setCell (p := ⟨B, 2, none⟩) h.hB (.int .i64 (now + k)))
  have HKS := Lib.hid (keeps_set (o := 2) (v := .int .i64 (now + k)) h.box (by decide))
  clear h hst
  go_enter Try.func36, Try.ntmps36
  go_wp2_with fail
  go_ret
  exact ⟨rfl, HST.out, HBS.out, HKS.out⟩
theorem rTick_neg {B : Nat} {w : World} {k : Int} (h0 : k < 0 ∨ 1099511627776 < k) :
    Calls Try.prog 36 #[.pointer (some ⟨B, 0, none⟩), .int .i64 k] w fun e w' => e = .returned (.int .i64 2) ∧ w' = w := by
  by_cases hk : k < 0
  · have d1 := decide_eq_true hk
    go_enter Try.func36, Try.ntmps36
    go_wp2_with fail
    go_ret
    exact ⟨rfl, rfl⟩
  · have d1 := decide_eq_false hk
    have d2 : decide ((1099511627776 : Int) < k) = true := decide_eq_true (by omega)
    go_enter Try.func36, Try.ntmps36
    go_wp2_with fail
    go_ret
    exact ⟨rfl, rfl⟩
theorem rTick_big {N B : Nat} {v : Value} {base most now : Int} {L : List Tm} {w : World} (h : Ref N B v base most now L w) {k : Int} (h0 : 0 ≤ k) (h1 : k ≤ 1099511627776) (h2 : 1125899906842624 < now + k) (h3 : 0 ≤ now) :
    Calls Try.prog 36 #[.pointer (some ⟨B, 0, none⟩), .int .i64 k] w fun e w' => e = .returned (.int .i64 3) ∧ w' = w := by
  have c2 := h.c2
  have d1 : decide (k < 0) = false := decide_eq_false (by omega)
  have d2 : decide ((1099511627776 : Int) < k) = false := decide_eq_false (by omega)
  have d3 : decide (1125899906842624 - k < now) = true := decide_eq_true (by omega)
  clear h
  go_enter Try.func36, Try.ntmps36
  go_wp2_with fail
  go_ret
  exact ⟨rfl, rfl⟩

theorem rTried_none {N B : Nat} {v : Value} {base most now : Int} {L : List Tm} {w : World} (h : Ref N B v base most now L w) (x : Int) (hl : L.length ≤ 1000) (hno : ∀ j, j < L.length → (tm L j).1 ≠ x) :
    Calls Try.prog 35 #[.pointer (some ⟨B, 0, none⟩), .int .i64 x] w fun e w' => e = .returned (.bool false) ∧ w' = w := by
  have HF := Lib.hid (Find_any h x hl)
  clear h
  go_enter Try.func35, Try.ntmps35
  go_wp2_with fail
  refine HF.out.mono ?_
  rintro e w1 ⟨⟨i, hi, he, _, rfl⟩ | ⟨_, rfl⟩, rfl⟩
  · exact absurd he (hno i hi)
  · go_wp2_with fail
    go_ret
    exact ⟨rfl, rfl⟩

theorem lcells_set (L : List Tm) (t : Tm) : ∀ i, i < L.length → (((lcells L).set (i * 3) (.int .i64 t.1)).set (i * 3 + 1) (.int .i64 t.2.1)).set (i * 3 + 2) (.int .i64 t.2.2) = lcells (L.set i t) := by
  induction L with
  | nil => intro i hi; simp at hi
  | cons u L ih =>
    intro i hi
    cases i with
    | zero => simp [lcells_cons, tcells]
    | succ i =>
      have := ih i (by simpa using hi)
      have e1 : (i + 1) * 3 = 3 + i * 3 := by omega
      have h : ∀ (k : Nat) (z : Value) (R : List Value), (tcells u ++ R).set (3 + k) z = tcells u ++ R.set k z := fun k z R => by
        rw [List.set_append_right _ _ (by simp [tcells])]
        congr 2
        simp [tcells]
      rw [lcells_cons, e1, Nat.add_assoc, Nat.add_assoc, h, h, h, this, List.set_cons_succ, lcells_cons]

theorem Ref.drew {N B : Nat} {v : Value} {base most now : Int} {L : List Tm} {w : World} (h : Ref N B v base most now L w) : Ref N B v base most now L w.drew := ⟨h.hB, h.box, h.row⟩
theorem Keeps.drew {S : Obj → Prop} {w w' : World} (h : Keeps S w w') : Keeps S w w'.drew := fun k o hs ho => h k o hs ho
theorem set100 {w : World} {g : Nat} {c : Array Value} (h : w.heap[g]? = some (.cells c 100 (0, 0))) (o : Nat) (v : Value) : Keeps isClk w (w.setCell ⟨g, o, none⟩ v) ∧ ∃ c', (w.setCell ⟨g, o, none⟩ v).heap[g]? = some (.cells c' 100 (0, 0)) :=
  ⟨keeps_set h (by decide), _, heap_setCell_same w g o _ _ v h⟩

set_option maxHeartbeats 4000000 in
theorem rTried_yes {N B base most i tn : Nat} {v : Value} {now at_ : Int} {L : List Tm} {w : World} (h : Ref N B v (base : Int) (most : Int) now L w) (x : Int) (hl : L.length ≤ 1000) (hi : i < L.length) (ht : tm L i = (x, at_, (tn : Int))) (hfst : ∀ j, j < i → (tm L j).1 ≠ x)
    (h0 : 1 ≤ base) (h1 : base ≤ most) (h2 : most ≤ 1024) (htn : tn < 1000000) (hnow0 : 0 ≤ now) (hnow : now ≤ 1125899906842624) :
    Calls Try.prog 35 #[.pointer (some ⟨B, 0, none⟩), .int .i64 x] w fun e w' => e = .returned (.bool true) ∧ Ref N B v (base : Int) (most : Int) now (L.set i (x, now + (M.wait base most (tn + 1) : Nat), ((tn + 1 : Nat) : Int))) w' ∧ Below N w w' ∧ Keeps isClk w w' := by
  have HF := Lib.hid (Find_any h x hl)
  have HREF := Lib.hid h
  have hwl := M.wait_le base most (tn + 1)
  have HWAIT := Lib.hid (fun W => rWait_any base most (tn + 1) W h0 (by omega) h2 (by omega) (by omega))
  obtain ⟨r, hr⟩ : ∃ r, r = M.wait base most (tn + 1) := ⟨_, rfl⟩
  rw [← hr] at hwl HWAIT ⊢
  clear hr
  obtain ⟨oa, cap, rfl, hc⟩ := h.slice
  obtain ⟨g, rfl, x0, x1, x2⟩ := hc i hi
  rw [ht] at x0 x1 x2
  dsimp only at x0 x1 x2
  have c3 := h.c3
  have hNs : N ≤ w.heap.size := Nat.le_trans h.hB (Nat.le_of_lt h.lt)
  have hgw : g < w.heap.size := (h.row.lt g rfl).2
  have hNg : N ≤ g := (h.row.lt g rfl).1
  have hBg : B ≠ g := fun e => h.not_row (by rw [e]; rfl)
  have hTB : w.heap.size ≠ B := Nat.ne_of_gt h.lt
  have hTg : w.heap.size ≠ g := Nat.ne_of_gt hgw
  obtain ⟨n, hn⟩ : ∃ n, n = L.length := ⟨_, rfl⟩
  have HN := Lib.hid hn
  rw [← hn] at hl hi c3 HREF
  have HC := Lib.hid hc
  clear hn hc
  obtain ⟨W2, hW2⟩ : ∃ W2, W2 = w.alloc (Obj.cells #[.int .i64 x, .int .i64 at_, .int .i64 ((tn : Int) + 1)] 100) := ⟨_, rfl⟩
  have hr2 : Ref N B (.slice (some ⟨g, 0, none⟩) n cap) (base : Int) (most : Int) now L W2 := by rw [hW2]; exact HREF.out.keeps (Keeps.of_grown (World.grownBy_alloc w _ none) (fun j o e => by cases e))
  have b0 : W2.cell? ⟨w.heap.size, 0, none⟩ = some (.int .i64 x) := by rw [hW2]; simp [go_sem]
  have b1 : W2.cell? ⟨w.heap.size, 1, none⟩ = some (.int .i64 at_) := by rw [hW2]; simp [go_sem]
  have b2 : W2.cell? ⟨w.heap.size, 2, none⟩ = some (.int .i64 ((tn : Int) + 1)) := by rw [hW2]; simp [go_sem]
  have f1 : W2.frozen? ⟨w.heap.size, 1, none⟩ = false := by rw [hW2]; simp [go_sem]
  have r20 := hr2.c0; have r21 := hr2.c1; have r22 := hr2.c2
  obtain ⟨W3, hW3⟩ : ∃ W3, W3 = W2.setCell ⟨w.heap.size, 1, none⟩ (.int .i64 (now + (r : Int))) := ⟨_, rfl⟩
  have q0 : W3.cell? ⟨w.heap.size, 0, none⟩ = some (.int .i64 x) := by rw [hW3, World.cell?_setCell_other _ _ _ _ (by simp)]; exact b0
  have q1 : W3.cell? ⟨w.heap.size, 1, none⟩ = some (.int .i64 (now + (r : Int))) := by rw [hW3]; exact World.cell?_setCell_same _ _ _ b1
  have q2 : W3.cell? ⟨w.heap.size, 2, none⟩ = some (.int .i64 ((tn : Int) + 1)) := by rw [hW3, World.cell?_setCell_other _ _ _ _ (by simp)]; exact b2
  have hr3 : Ref N B (.slice (some ⟨g, 0, none⟩) n cap) (base : Int) (most : Int) now L W3 := by
    rw [hW3]
    refine ⟨hr2.hB, (heap_setCell_other W2 _ B _ (fun e => hTB e.symm)).trans hr2.box, hr2.row.kept (grown_set _ _ _) (.inr (by intro e; exact hTg (by simpa [Value.ownBlock] using e.symm)))⟩
  obtain ⟨_, _, he3, hc3⟩ := (show Ref N B (.slice (some ⟨g, 0, none⟩) L.length cap) (base : Int) (most : Int) now L W3 from by rw [← HN.out]; exact hr3).slice
  injection he3 with he31 he32 he33
  subst he31 he33
  obtain ⟨_, eg, z0, z1, z2⟩ := hc3 i (by rw [← HN.out]; exact hi)
  cases eg
  rw [ht] at z0 z1 z2
  dsimp only at z0 z1 z2
  have hrow3 : W3.ownsRow N 100 3 (.slice (some ⟨g, 0, none⟩) n cap) n (lcells L) := by have z := hr3.row; rw [← HN.out] at z; exact z
  have zf0 := hrow3.frozenAt (i * 3)
  have zf1 := hrow3.frozenAt (i * 3 + 1)
  have zf2 := hrow3.frozenAt (i * 3 + 2)
  have HROW3 := Lib.hid hrow3
  clear hc3 he32 hrow3
  have r30 := hr3.c0; have r31 := hr3.c1; have r32 := hr3.c2; have r33 := hr3.c3
  obtain ⟨W4, hW4⟩ : ∃ W4, W4 = ((W3.setCell ⟨g, i * 3, none⟩ (.int .i64 x)).setCell ⟨g, i * 3 + 1, none⟩ (.int .i64 (now + (r : Int)))).setCell ⟨g, i * 3 + 2, none⟩ (.int .i64 ((tn : Int) + 1)) := ⟨_, rfl⟩
  have far : ∀ (a : Addr), g ≠ a.block → W4.cell? a = W3.cell? a := fun a ha => by
    rw [hW4, World.cell?_setCell_far _ _ _ _ ha, World.cell?_setCell_far _ _ _ _ ha, World.cell?_setCell_far _ _ _ _ ha]
  have s33 := (far ⟨B, 3, none⟩ (fun e => hBg e.symm)).trans r33
  have s0 := (far ⟨w.heap.size, 0, none⟩ (fun e => hTg e.symm)).trans q0
  have s1 := (far ⟨w.heap.size, 1, none⟩ (fun e => hTg e.symm)).trans q1
  have s2 := (far ⟨w.heap.size, 2, none⟩ (fun e => hTg e.symm)).trans q2
  have hrow4 : W4.ownsRow N 100 3 (.slice (some ⟨g, 0, none⟩) n cap) n (lcells (L.set i (x, now + (r : Int), ((tn + 1 : Nat) : Int)))) := by
    rw [← lcells_set L (x, now + (r : Int), ((tn + 1 : Nat) : Int)) i (by rw [← HN.out]; exact hi), hW4]
    exact (((HROW3.out.stored (i * 3) (.int .i64 x)).1.stored (i * 3 + 1) (.int .i64 (now + (r : Int)))).1.stored (i * 3 + 2) (.int .i64 ((tn : Int) + 1))).1
  obtain ⟨cur, hcur⟩ : ∃ cur, W3.heap[g]? = some (.cells cur 100 (0, 0)) := by
    rcases HROW3.out.2 with ⟨h, _⟩ | ⟨g', cap', cur, hv, _, hg, _⟩
    · cases h
    · cases hv; exact ⟨cur, hg⟩
  have hk4 : Keeps isClk w W4 := by
    have k2 : Keeps isClk w W2 := by rw [hW2]; exact Keeps.of_grown (World.grownBy_alloc w _ none) (fun j o e => by cases e)
    have k3 : Keeps isClk W2 W3 := by rw [hW3]; exact keeps_set (c := #[.int .i64 x, .int .i64 at_, .int .i64 ((tn : Int) + 1)]) (t := 100) (fz := (0, 0)) (by rw [hW2]; exact (MapKept.heap_alloc w _).1) (by decide)
    obtain ⟨k4, c4, h4⟩ := set100 hcur (i * 3) (.int .i64 x)
    obtain ⟨k5, c5, h5⟩ := set100 h4 (i * 3 + 1) (.int .i64 (now + (r : Int)))
    obtain ⟨k6, c6, h6⟩ := set100 h5 (i * 3 + 2) (.int .i64 ((tn : Int) + 1))
    rw [hW4]
    exact (((k2.trans k3).trans k4).trans k5).trans k6
  have hb4 : Below N w W4 := by
    rw [hW4, hW3, hW2]
    exact (((((Below.refl N w).alloc hNs _).setCell (p := ⟨w.heap.size, 1, none⟩) hNs _).setCell (p := ⟨g, i * 3, none⟩) hNg _).setCell (p := ⟨g, i * 3 + 1, none⟩) hNg _).setCell (p := ⟨g, i * 3 + 2, none⟩) hNg _
  have hr4 : Ref N B (.slice (some ⟨g, 0, none⟩) n cap) (base : Int) (most : Int) now (L.set i (x, now + (r : Int), ((tn + 1 : Nat) : Int))) W4 := by
    refine ⟨hr3.hB, ?_, by rw [List.length_set, ← HN.out]; exact hrow4⟩
    rw [hW4, heap_setCell_other _ _ B _ hBg, heap_setCell_other _ _ B _ hBg, heap_setCell_other _ _ B _ hBg]
    exact hr3.box
  have HW4 := Lib.hid hW4
  have HR4 := Lib.hid hr4
  have HB4 := Lib.hid hb4
  have HK4 := Lib.hid hk4
  clear far hrow4 hcur hk4 hb4 hr4 hW4
  have hwr : IntKind.i64.wrap (now + (r : Int)) = now + (r : Int) := by
    rw [IntKind.wrap_i64]; omega
  have HW2 := Lib.hid hW2; have HW3 := Lib.hid hW3
  have HR3 := Lib.hid hr3
  have HR2 := Lib.hid hr2
  clear h hW2 hW3 hr2 hr3
  go_enter Try.func35, Try.ntmps35
  go_wp2_with fail
  refine HF.out.mono ?_
  rintro e w1 ⟨⟨j, hj, he, hjf, rfl⟩ | ⟨hno, rfl⟩, rfl⟩
  · have hji : j = i := by
      rcases Nat.lt_trichotomy j i with h | h | h
      · exact absurd he (hfst j h)
      · exact h
      · exact absurd (by rw [ht]) (hjf i h)
    subst hji
    clear hj he hjf
    go_wp2_with fail
    rw [← HW2.out]
    go_region_held (fun w' => w'.cell? ⟨B, 0, none⟩ = some (.int .i64 (base : Int)) ∧ w'.cell? ⟨B, 1, none⟩ = some (.int .i64 (most : Int)) ∧ w'.cell? ⟨B, 2, none⟩ = some (.int .i64 now) ∧ w'.cell? ⟨w1.heap.size, 2, none⟩ = some (.int .i64 ((tn : Int) + 1))) (first | exact ⟨r20, r21, r22, b2⟩ | (rw [← HW3.out]; exact ⟨r30, r31, r32, q2⟩)) (first | (go_at_call 15; refine (HWAIT.out _).mono ?_; rintro e w' ⟨rfl, rfl⟩))
    rw [← HW3.out]
    go_wp2_with fail
    go_region_held (fun w' => w'.cell? ⟨B, 3, none⟩ = some (.slice (some ⟨g, 0, none⟩) n cap) ∧ w'.cell? ⟨w1.heap.size, 0, none⟩ = some (.int .i64 x) ∧ w'.cell? ⟨w1.heap.size, 1, none⟩ = some (.int .i64 (now + (r : Int))) ∧ w'.cell? ⟨w1.heap.size, 2, none⟩ = some (.int .i64 ((tn : Int) + 1))) (first | exact ⟨r33, q0, q1, q2⟩ | (rw [← HW4.out]; exact ⟨s33, s0, s1, s2⟩)) (fail)
    rw [← HW4.out]
    go_wp2_with fail
    go_ret
    exact ⟨rfl, by rw [← HN.out]; exact HR4.out.drew.drew, HB4.out.drew.drew, HK4.out.drew.drew⟩
  · exact absurd (by rw [ht]) (hno i (by rw [← HN.out]; exact hi))
end Go.Proofs.Ytklkhlipecphkaa
