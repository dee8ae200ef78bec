/- Retry: the clock's writes leave the document's clock as it lies. -/
import Derived.Test.YtklkhlipecphkaaRg
namespace Go.Proofs.Ytklkhlipecphkaa
open Go.RowKit Go.Joins Go.Maps
set_option maxRecDepth 100000
set_option linter.unusedVariables false

/-- The blocks of the document's clock; those of the program's. -/
def isRef (o : Obj) : Prop := ∃ c fz, o = .cells c 63 fz ∨ o = .cells c 100 fz ∨ o = .cells c 65 fz
def isClk (o : Obj) : Prop := (∃ es cl, o = .map es cl) ∨ ∃ c fz, o = .cells c 70 fz ∨ o = .cells c 65 fz
theorem not_ref97 (c : Array Value) (fz : Nat × Nat) : ¬ isRef (.cells c 97 fz) := by rintro ⟨c', fz', h | h | h⟩ <;> cases h
theorem not_ref70 (c : Array Value) (fz : Nat × Nat) : ¬ isRef (.cells c 70 fz) := by rintro ⟨c', fz', h | h | h⟩ <;> cases h
theorem not_refm (es : Array MapEntry) (cl : Nat) : ¬ isRef (.map es cl) := by rintro ⟨c', fz', h | h | h⟩ <;> cases h
theorem not_clk (c : Array Value) (t : TypeId) (fz : Nat × Nat) (h : t ≠ 70 ∧ t ≠ 65) : ¬ isClk (.cells c t fz) := by
  rintro (⟨_, _, e⟩ | ⟨_, _, e | e⟩)
  · cases e
  · cases e; exact h.1 rfl
  · cases e; exact h.2 rfl
def Keeps (S : Obj → Prop) (w w' : World) : Prop := ∀ (k : Nat) (o : Obj), S o → w.heap[k]? = some o → w'.heap[k]? = some o
theorem Keeps.refl (S : Obj → Prop) (w : World) : Keeps S w w := fun _ _ _ h => h
theorem Keeps.trans {S : Obj → Prop} {a b c : World} (h : Keeps S a b) (k : Keeps S b c) : Keeps S a c := fun i o hs ho => k i o hs (h i o hs ho)
theorem Keeps.of_grown {S : Obj → Prop} {w w' : World} {row : Option Nat} (hg : w.grownBy w' row) (hr : ∀ j o, row = some j → w.heap[j]? = some o → ¬ S o) : Keeps S w w' := fun k o hs ho => by
  rw [hg.block k (Array.getElem?_eq_some_iff.1 ho).1 (fun e => hr k o e.symm ho hs)]
  exact ho
theorem Keeps.of_below {S : Obj → Prop} {w w' : World} (h : Below w.heap.size w w') : Keeps S w w' := fun k o _ ho => (h.block k (Array.getElem?_eq_some_iff.1 ho).1).trans ho
theorem Clk.map_not_ref {N B M : Nat} {base most now : Int} {f : Int → Option (Int × Int)} {n : Nat} {w : World} (h : Clk N B M base most now f n w) {o : Obj} (ho : w.heap[M]? = some o) : ¬ isRef o := by
  obtain ⟨D, ⟨es, cl, hm, _⟩, _⟩ := h.map
  rw [hm] at ho
  cases ho
  exact not_refm _ _
theorem Clk.keeps {N B M : Nat} {base most now : Int} {f : Int → Option (Int × Int)} {n : Nat} {w w' : World} (h : Clk N B M base most now f n w) (hk : Keeps isClk w w') : Clk N B M base most now f n w' := by
  obtain ⟨D, ⟨es, cl, hm, hrest⟩, hv⟩ := h.map
  exact ⟨h.hB, h.hM, h.ne, hk _ _ (.inr ⟨_, _, .inl rfl⟩) h.box, ⟨D, ⟨es, cl, hk _ _ (.inl ⟨_, _, rfl⟩) hm, hrest⟩, hv⟩⟩

set_option maxHeartbeats 1000000 in
theorem Start_g {N B M : Nat} {base most now : Int} {f : Int → Option (Int × Int)} {n : Nat} {w : World} (h : Clk N B M base most now f n w) (hb : 0 < base) (hn : n < maxLen) {x : Int} (hx : (Lit.int .i64 x).wf = true) :
    Calls Try.prog 23 #[.pointer (some ⟨B, 0, none⟩), .int .i64 x] w fun e w' => e = .returned (.tuple #[]) ∧ Clk N B M base most now (upd f x (some (now, 0))) (n + 1) w' ∧ Below N w w' ∧ Keeps isRef w w' := by
  have HIS := Lib.hid (is_yes h hb)
  have c2 := h.c2
  have c3 := h.c3
  obtain ⟨w2, hup, hm2, hg2⟩ := timers_put (w := w.drew) (b := M) (n := n) (f := f) h.map hn hx (now, 0)
  have h2 := Clk.put (w := w.drew) ⟨h.hB, h.hM, h.ne, h.box, h.map⟩ hg2 hm2
  have e2 := h2.c2
  have e3 := h2.c3
  have hbel : Below N w w2 := (Below.drew (Below.refl N w)).grown hg2 (Nat.le_trans h.hB (Nat.le_of_lt h.lt)) (fun q hq => by cases hq; exact h.hM)
  have HKP := Lib.hid (Keeps.of_grown (S := isRef) (w := w) (w' := w2) (row := some M) ⟨hg2.os, hg2.tape, hg2.output, hg2.size, hg2.block⟩ (fun j o e ho => by cases e; exact h.map_not_ref ho))
  have H2 := Lib.hid h2
  have HBEL := Lib.hid hbel
  clear h hm2 hg2 h2 hbel
  unfold tVal at hup
  go_enter Try.func23, Try.ntmps23
  go_wp2_with fail
  refine HIS.out.mono ?_
  rintro e w1 ⟨rfl, rfl⟩
  go_wp2_with fail
  go_region_held (fun w' => w'.cell? ⟨B, 2, none⟩ = some (.int .i64 now) ∧ w'.cell? ⟨B, 3, none⟩ = some (.map (some M))) (go_keep) (fail)
  go_wp2_with fail
  exact bodyPost_end (results_none rfl _ _ _) rfl ⟨rfl, H2.out, HBEL.out, HKP.out⟩

set_option maxHeartbeats 2000000 in
theorem Tried_g {N B Mb base most t : Nat} {now a : Int} {f : Int → Option (Int × Int)} {n : Nat} {w : World} (h : Clk N B Mb (base : Int) (most : Int) now f n w) (h0 : 1 ≤ base) (h1 : base ≤ most) (h2 : most ≤ 1024) (hn : n < maxLen) {x : Int} (hx : (Lit.int .i64 x).wf = true)
    (hf : f x = some (a, (t : Int))) (ht : t < 1000000) (hnow0 : 0 ≤ now) (hnow : now ≤ 1125899906842624) :
    Calls Try.prog 24 #[.pointer (some ⟨B, 0, none⟩), .int .i64 x] w fun e w' => e = .returned (.int .i64 0) ∧ Clk N B Mb (base : Int) (most : Int) now (upd f x (some (now + (M.wait base most (t + 1) : Nat), ((t + 1 : Nat) : Int)))) (n + 1) w' ∧ Below N w w' ∧ Keeps isRef w w' := by
  have HIS := Lib.hid (is_yes h (by omega))
  have c3 := h.c3
  have hl := timers_look h.map hx
  rw [hf] at hl
  simp only [Option.getD_some, Option.isSome_some, tVal] at hl
  have hwl := M.wait_le base most (t + 1)
  have HWAIT := Lib.hid (fun W => wait_any base most (t + 1) W h0 (by omega) h2 (by omega) (by omega))
  obtain ⟨v, hv⟩ : ∃ v, v = M.wait base most (t + 1) := ⟨_, rfl⟩
  rw [← hv] at hwl HWAIT ⊢
  have hN := h.hB
  have hNs : N ≤ w.heap.size := Nat.le_trans h.hB (Nat.le_of_lt h.lt)
  have hneB : w.heap.size ≠ B := Nat.ne_of_gt h.lt
  have hneM : w.heap.size ≠ Mb := Nat.ne_of_gt (timers_lt h.map)
  obtain ⟨W2, hW2⟩ : ∃ W2, W2 = w.alloc (Obj.cells #[.int .i64 a, .int .i64 ((t : Int) + 1)] 97) := ⟨_, rfl⟩
  have hk2 : Clk N B Mb (base : Int) (most : Int) now f n W2 := by rw [hW2]; exact h.below ((Below.refl _ w).alloc (Nat.le_refl _) _)
  have hB2 : Below N w W2 := by rw [hW2]; exact (Below.refl _ w).alloc hNs _
  obtain ⟨W3, hW3⟩ : ∃ W3, W3 = W2.setCell ⟨w.heap.size, 0, none⟩ (.int .i64 (now + (v : Int))) := ⟨_, rfl⟩
  have hk3 : Clk N B Mb (base : Int) (most : Int) now f n W3 := by
    rw [hW3]
    exact hk2.kept (grown_set _ _ _) (by intro e; exact hneB (Option.some.inj e).symm) (by intro e; exact hneM (Option.some.inj e).symm)
  have hB3 : Below N w W3 := by rw [hW3]; exact hB2.setCell hNs _
  obtain ⟨w4, hup, hm4, hg4⟩ := timers_put (w := W3.drew.drew) (b := Mb) (n := n) (f := f) hk3.map hn hx (now + (v : Int), ((t + 1 : Nat) : Int))
  have hk4 := Clk.put (w := W3.drew.drew) ⟨hk3.hB, hk3.hM, hk3.ne, hk3.box, hk3.map⟩ hg4 hm4
  have hB4 : Below N w w4 := hB3.drew.drew.grown hg4 (Nat.le_trans hk3.hB (Nat.le_of_lt hk3.lt)) (fun q hq => by cases hq; exact hk3.hM)
  have b1 : W2.cell? ⟨w.heap.size, 1, none⟩ = some (.int .i64 ((t : Int) + 1)) := by rw [hW2]; simp [go_sem]
  have b0 : W2.cell? ⟨w.heap.size, 0, none⟩ = some (.int .i64 a) := by rw [hW2]; simp [go_sem]
  have f2 : W2.frozen? ⟨w.heap.size, 0, none⟩ = false := by rw [hW2]; simp [go_sem]
  have p1 : W3.cell? ⟨w.heap.size, 1, none⟩ = some (.int .i64 ((t : Int) + 1)) := by rw [hW3, World.cell?_setCell_other _ _ _ _ (by simp)]; exact b1
  have p0 : W3.cell? ⟨w.heap.size, 0, none⟩ = some (.int .i64 (now + (v : Int))) := by rw [hW3]; exact World.cell?_setCell_same _ _ _ b0
  have b20 := hk2.c0; have b21 := hk2.c1; have b22 := hk2.c2
  have b33 := hk3.c3
  have b30 := hk3.c0; have b31 := hk3.c1; have b32 := hk3.c2
  have b43 := hk4.c3
  have q1 : w4.cell? ⟨w.heap.size, 1, none⟩ = some (.int .i64 ((t : Int) + 1)) := (World.cell?_of_block (a := ⟨w.heap.size, 1, none⟩) (hg4.block _ (World.block_lt_of_cell? _ _ p1) (by intro e; exact hneM (Option.some.inj e)))).trans p1
  have q0 : w4.cell? ⟨w.heap.size, 0, none⟩ = some (.int .i64 (now + (v : Int))) := (World.cell?_of_block (a := ⟨w.heap.size, 0, none⟩) (hg4.block _ (World.block_lt_of_cell? _ _ p0) (by intro e; exact hneM (Option.some.inj e)))).trans p0
  unfold tVal at hup
  dsimp only at hup
  rw [show ((t + 1 : Nat) : Int) = (t : Int) + 1 by omega] at hup hk4 ⊢
  have hwr : IntKind.i64.wrap (now + (v : Int)) = now + (v : Int) := by
    rw [IntKind.wrap_i64]; omega
  have kp2 : Keeps isRef w W2 := by rw [hW2]; exact Keeps.of_grown (World.grownBy_alloc w _ none) (fun j o e => by cases e)
  have kp3 : Keeps isRef W2 W3 := by
    rw [hW3]
    refine Keeps.of_grown (grown_set _ _ _) (fun j o e ho => ?_)
    cases e
    rw [hW2, (MapKept.heap_alloc w _).1] at ho
    cases ho
    exact not_ref97 _ _
  have kp4 : Keeps isRef W3 w4 := Keeps.of_grown (w := W3) (row := some Mb) ⟨hg4.os, hg4.tape, hg4.output, hg4.size, hg4.block⟩ (fun j o e ho => by cases e; exact hk3.map_not_ref ho)
  have HKP := Lib.hid ((kp2.trans kp3).trans kp4)
  clear kp2 kp3 kp4
  have HK4 := Lib.hid hk4
  have HB4 := Lib.hid hB4
  clear h hf hk2 hB2 hk3 hB3 hk4 hB4 hm4 hg4 hv
  have HW2 := Lib.hid hW2; have HW3 := Lib.hid hW3
  clear hW2 hW3
  go_enter Try.func24, Try.ntmps24
  go_wp2_with fail
  refine HIS.out.mono ?_
  rintro e w1 ⟨rfl, rfl⟩
  go_wp2_with fail
  rw [← HW2.out]
  go_region_held (fun w' => w'.cell? ⟨B, 0, none⟩ = some (.int .i64 (base : Int)) ∧ w'.cell? ⟨B, 1, none⟩ = some (.int .i64 (most : Int)) ∧ w'.cell? ⟨B, 2, none⟩ = some (.int .i64 now) ∧ w'.cell? ⟨w1.heap.size, 1, none⟩ = some (.int .i64 ((t : Int) + 1))) (first | exact ⟨b20, b21, b22, b1⟩ | (rw [← HW3.out]; exact ⟨b30, b31, b32, p1⟩)) (first | (go_at_call 47; refine (HWAIT.out _).mono ?_; rintro e w' ⟨rfl, rfl⟩))
  rw [← HW3.out]
  go_wp2_with fail
  go_region_held (fun w' => w'.cell? ⟨B, 3, none⟩ = some (.map (some Mb)) ∧ w'.cell? ⟨w1.heap.size, 0, none⟩ = some (.int .i64 (now + (v : Int))) ∧ w'.cell? ⟨w1.heap.size, 1, none⟩ = some (.int .i64 ((t : Int) + 1))) (first | exact ⟨b33, p0, p1⟩ | exact ⟨b43, q0, q1⟩) (fail)
  go_wp2_with fail
  go_ret
  exact ⟨rfl, HK4.out, HB4.out, HKP.out⟩

theorem Tick_g {N B M : Nat} {base most now : Int} {f : Int → Option (Int × Int)} {n : Nat} {w : World} (h : Clk N B M base most now f n w) (hb : 0 < base) {k : Int} (h0 : 0 ≤ k) (h1 : k ≤ 1099511627776) (h2 : now + k ≤ 1125899906842624) (h3 : 0 ≤ now) :
    Calls Try.prog 28 #[.pointer (some ⟨B, 0, none⟩), .int .i64 k] w fun e w' => e = .returned (.int .i64 0) ∧ Clk N B M base most (now + k) f n w' ∧ Below N w w' ∧ Keeps isRef w w' := by
  have HIS := Lib.hid (is_yes h hb)
  have c2 := h.c2
  have fz := h.fz
  have d1 : decide (k < 0) = false := decide_eq_false (by omega)
  have d2 : decide ((1099511627776 : Int) < k) = false := decide_eq_false (by omega)
  have d3 : decide (1125899906842624 - now < k) = false := decide_eq_false (by omega)
  have HT := Lib.hid (h.ticked (now + k))
  have HN := Lib.hid (((Below.refl N w).setCell (p := ⟨B, 2, none⟩) h.hB (.int .i64 (now + k))))
  have HKP := Lib.hid (Keeps.of_grown (S := isRef) (grown_set w ⟨B, 2, none⟩ (.int .i64 (now + k))) (fun j o e ho => by cases e; rw [h.box] at ho; cases ho; exact not_ref70 _ _))
  clear h
  go_enter Try.func28, Try.ntmps28
  go_wp2_with fail
  refine HIS.out.mono ?_
  rintro e w1 ⟨rfl, rfl⟩
  go_wp2_with fail
  go_ret
  exact ⟨rfl, HT.out, HN.out, HKP.out⟩

set_option maxHeartbeats 1000000 in
theorem Stop_g {N B Mb : Nat} {base most now : Int} {f : Int → Option (Int × Int)} {n : Nat} {w : World} (h : Clk N B Mb base most now f n w) (hb : 0 < base) {x : Int} (hx : (Lit.int .i64 x).wf = true) :
    Calls Try.prog 25 #[.pointer (some ⟨B, 0, none⟩), .int .i64 x] w fun e w' => e = .returned (.bool (f x).isSome) ∧ Clk N B Mb base most now (upd f x none) n w' ∧ Below N w w' ∧ Keeps isRef w w' := by
  have HIS := Lib.hid (is_yes h hb)
  have c3 := h.c3
  have hl := timers_look h.map hx
  obtain ⟨⟨a, t⟩, hp⟩ : ∃ p, p = (f x).getD (0, 0) := ⟨_, rfl⟩
  obtain ⟨ok, hok⟩ : ∃ ok, ok = (f x).isSome := ⟨_, rfl⟩
  rw [← hp, ← hok] at hl
  rw [← hok]
  simp only [tVal] at hl
  clear hp hok
  have hk := h.below ((Below.refl _ w).alloc (Nat.le_refl _) (Obj.cells #[.int .i64 a, .int .i64 t] 97))
  have e3 := hk.c3
  have hBa : Below N w (w.alloc (Obj.cells #[.int .i64 a, .int .i64 t] 97)) := (Below.refl _ w).alloc (Nat.le_trans h.hB (Nat.le_of_lt h.lt)) _
  have kp1 : Keeps isRef w (w.alloc (Obj.cells #[.int .i64 a, .int .i64 t] 97)) := Keeps.of_grown (World.grownBy_alloc w _ none) (fun j o e => by cases e)
  have KP1 := Lib.hid kp1
  clear kp1
  have HK := Lib.hid hk
  have HBA := Lib.hid hBa
  obtain ⟨D, hown, hv⟩ := hk.map
  have HV := Lib.hid hv
  have HN := Lib.hid (show N ≤ (w.alloc (Obj.cells #[.int .i64 a, .int .i64 t] 97)).heap.size from Nat.le_trans hk.hB (Nat.le_of_lt hk.lt))
  clear h hk hBa hv
  go_enter Try.func25, Try.ntmps25
  go_wp2_with fail
  refine HIS.out.mono ?_
  rintro e w1 ⟨rfl, rfl⟩
  go_wp2_with (at_delete; refine wpList_delete_own _ rfl _ _ 68 3 rfl 97 law Try.underlying68 tElem Mb n D rfl hown _ _ rfl (keyOf_int_mk Try.underlying3 hx) ?_; intro w2 hown2 hturn2)
  have hk2 : Clk N B Mb base most now (upd f x none) n w2 := HK.out.put hturn2.grown ⟨_, hown2, HV.out.del⟩
  have hB2 : Below N w1 w2 := HBA.out.grown hturn2.grown HN.out (fun q hq => by cases hq; exact HK.out.hM)
  go_ret
  exact ⟨rfl, hk2, hB2, KP1.out.trans (Keeps.of_grown hturn2.grown (fun j o e ho => by cases e; exact HK.out.map_not_ref ho))⟩


theorem Tick_neg {N B Mb : Nat} {base most now : Int} {f : Int → Option (Int × Int)} {n : Nat} {w : World} (h : Clk N B Mb base most now f n w) (hb : 0 < base) {k : Int} (h0 : k < 0 ∨ 1099511627776 < k) :
    Calls Try.prog 28 #[.pointer (some ⟨B, 0, none⟩), .int .i64 k] w fun e w' => e = .returned (.int .i64 2) ∧ w' = w := by
  have HIS := Lib.hid (is_yes h hb)
  clear h
  by_cases hk : k < 0
  · have d1 := decide_eq_true hk
    go_enter Try.func28, Try.ntmps28
    go_wp2_with fail
    refine HIS.out.mono ?_
    rintro e w1 ⟨rfl, rfl⟩
    go_wp2_with fail
    go_ret
    exact ⟨rfl, rfl⟩
  · have d1 := decide_eq_false hk
    have d2 : decide ((1099511627776 : Int) < k) = true := decide_eq_true (by omega)
    go_enter Try.func28, Try.ntmps28
    go_wp2_with fail
    refine HIS.out.mono ?_
    rintro e w1 ⟨rfl, rfl⟩
    go_wp2_with fail
    go_ret
    exact ⟨rfl, rfl⟩
theorem Tick_big {N B Mb : Nat} {base most now : Int} {f : Int → Option (Int × Int)} {n : Nat} {w : World} (h : Clk N B Mb base most now f n w) (hb : 0 < base) {k : Int} (h0 : 0 ≤ k) (h1 : k ≤ 1099511627776) (h2 : 1125899906842624 < now + k) (h3 : 0 ≤ now) (h4 : now ≤ 1125899906842624) :
    Calls Try.prog 28 #[.pointer (some ⟨B, 0, none⟩), .int .i64 k] w fun e w' => e = .returned (.int .i64 3) ∧ w' = w := by
  have HIS := Lib.hid (is_yes h hb)
  have c2 := h.c2
  have d1 : decide (k < 0) = false := decide_eq_false (by omega)
  have d2 : decide ((1099511627776 : Int) < k) = false := decide_eq_false (by omega)
  have d3 : decide (1125899906842624 - now < k) = true := decide_eq_true (by omega)
  clear h
  go_enter Try.func28, Try.ntmps28
  go_wp2_with fail
  refine HIS.out.mono ?_
  rintro e w1 ⟨rfl, rfl⟩
  go_wp2_with fail
  go_ret
  exact ⟨rfl, rfl⟩
end Go.Proofs.Ytklkhlipecphkaa
