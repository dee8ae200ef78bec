/- Walks: data.Batch. -/
import Derived.Test.YtcojiienmmmihaaDb
import Derived.Test.YtcojiienmmmihaaDr
import Derived.RangeFuncBox
import Derived.Maps.AppendAt
namespace Go.Proofs.Ytcojiienmmmihaa
open Go.RowKit Go.Joins Go.Shelf
set_option maxRecDepth 100000
set_option linter.unusedVariables false
attribute [local go_sem] Oper.semAt_some

theorem within5 (a1 b1 c1 a2 b2 c2 a3 b3 c3 a4 b4 c4 a5 b5 c5 : Int) (w : World) (B : Nat) (hB : w.heap.size = B) :
    Calls Try.prog 53 #[.slice (some ⟨B, 0, none⟩) 5 5] (w.alloc (Obj.cells #[.int .i64 a1, .int .i64 b1, .int .i64 c1, .int .i64 a2, .int .i64 b2, .int .i64 c2, .int .i64 a3, .int .i64 b3, .int .i64 c3, .int .i64 a4, .int .i64 b4, .int .i64 c4, .int .i64 a5, .int .i64 b5, .int .i64 c5] 87)) fun e w' =>
      e = .returned (.bool (decide ((b1 ≤ a1 ∧ a1 ≤ c1) ∧ (b2 ≤ a2 ∧ a2 ≤ c2) ∧ (b3 ≤ a3 ∧ a3 ≤ c3) ∧ (b4 ≤ a4 ∧ a4 ≤ c4) ∧ (b5 ≤ a5 ∧ a5 ≤ c5)))) ∧ Below w.heap.size w w' := by
  subst hB
  refine (within_any [(a1, b1, c1), (a2, b2, c2), (a3, b3, c3), (a4, b4, c4), (a5, b5, c5)] _ 5 _ (by simp) ?_).mono ?_
  · intro j t ht
    match j, ht with
    | 0, ht => cases ht; simp [go_sem]
    | 1, ht => cases ht; simp [go_sem]
    | 2, ht => cases ht; simp [go_sem]
    | 3, ht => cases ht; simp [go_sem]
    | 4, ht => cases ht; simp [go_sem]
    | j + 5, ht => simp at ht
  · rintro e w' ⟨rfl, hb⟩
    refine ⟨?_, ((Below.refl _ _).alloc (Nat.le_refl _) _).trans (hb.mono (by simp))⟩
    refine congrArg (fun b => Ending.returned (Value.bool b)) (Bool.eq_iff_iff.2 ?_)
    simp [spanOk]

/-- Which example a turn of a batch is. -/
noncomputable def M.batchAt (s worker round m : Nat) (L : List Int) (t : Turn m) : Int := nth L (M.plc s 2 (worker : Int) ((round : Int) * 65536 + (t.1.1 : Int)) m t.1.2)
noncomputable def M.batch (s worker round step size m : Nat) (hm : 1 ≤ m) (L : List Int) : List Int := (turnsTo (step * size) m size hm).map (M.batchAt s worker round m L)

theorem row_low {w : World} {base e size n : Nat} {v : Value} {xs : List Value} (h : w.ownsRow base e size v n xs) {b : Nat} (hb : b < base) : some b ≠ v.ownBlock := by
  rcases h.2 with ⟨rfl, _⟩ | ⟨g, cap, cur, rfl, hgb, _, _⟩
  · simp [Value.ownBlock]
  · simp [Value.ownBlock]; omega

set_option maxHeartbeats 4000000 in
theorem Batch_yes (s worker round step size m g cap : Nat) (L : List Int) (w : World) (h1 : worker ≤ 63) (h2 : round ≤ 256) (h3 : step ≤ 63) (h4 : 1 ≤ size) (h5 : size ≤ 64) (hm : 1 ≤ m) (hm2 : m ≤ 4096)
    (hc : ∀ j, j < m → w.cell? ⟨g, j, none⟩ = some (.int .i64 (nth L j))) :
    Calls Try.prog 35 #[.int .u64 (s : Int), .int .i64 (worker : Int), .int .i64 (round : Int), .int .i64 (step : Int), .int .i64 (size : Int), .slice (some ⟨g, 0, none⟩) m cap] w (OwnPost (M.batch s worker round step size m hm L) w) := by
  have HC := Lib.hid hc
  clear hc
  have hd : decide (((0 : Int) ≤ (worker : Int) ∧ (worker : Int) ≤ 63) ∧ ((0 : Int) ≤ (round : Int) ∧ (round : Int) ≤ 256) ∧ ((0 : Int) ≤ (step : Int) ∧ (step : Int) ≤ 63) ∧ ((1 : Int) ≤ (size : Int) ∧ (size : Int) ≤ 64) ∧ ((1 : Int) ≤ (m : Int) ∧ (m : Int) ≤ 4096)) = true := decide_eq_true (by omega)
  have HD := Lib.hid hd
  clear hd
  refine (callsIn_wide (n := 9)).1 ?_
  refine callsIn_of_wp_marks Try.func35 rfl trivial ?_
  simp only [Try.ntmps35, List.size_toArray, List.length_cons, List.length_nil, Nat.reduceAdd, Nat.reduceSub, Array.replicate_succ, Array.replicate_zero, List.push_toArray, List.append_toArray, List.nil_append, List.cons_append]
  gi_wp2_with (fail)
  refine ⟨trivial, ?_⟩
  refine CallsIn.mono (callsIn_wide.2 (within5 _ _ _ _ _ _ _ _ _ _ _ _ _ _ _ _ _ (by simp))) ?_
  rintro e w1 ⟨rfl, hb1⟩
  rw [HD.out]
  obtain ⟨w6, hw6⟩ : ∃ w6, w6 = (((((w.alloc (Obj.cells #[.int .u64 (s : Int)] 22)).alloc (Obj.cells #[.int .i64 (worker : Int)] 3)).alloc (Obj.cells #[.int .i64 (round : Int)] 3)).alloc (Obj.cells #[.slice (some ⟨g, 0, none⟩) m cap] 34)).alloc (Obj.cells #[.slice none 0 0] 34)).alloc (Obj.cells #[.int .i64 0] 35) := ⟨_, rfl⟩
  have hsz6 : w6.heap.size = w.heap.size + 6 := by rw [hw6]; simp
  have hbw6 : Below w.heap.size w w6 := by
    rw [hw6]
    exact ((((((Below.refl _ w).alloc (Nat.le_refl _) _).alloc (by simp) _).alloc (by simp; omega) _).alloc (by simp; omega) _).alloc (by simp; omega) _).alloc (by simp; omega) _
  rw [← hw6] at hb1
  have b6 : Boxed w6 w.heap.size 22 (.int .u64 (s : Int)) := by
    rw [hw6]; exact (((((Boxed.new w 22 _).alloc _).alloc _).alloc _).alloc _).alloc _
  have b7 : Boxed w6 (w.heap.size + 1) 3 (.int .i64 (worker : Int)) := by
    have := ((((Boxed.new (w.alloc (Obj.cells #[.int .u64 (s : Int)] 22)) 3 (.int .i64 (worker : Int))).alloc (Obj.cells #[.int .i64 (round : Int)] 3)).alloc (Obj.cells #[.slice (some ⟨g, 0, none⟩) m cap] 34)).alloc (Obj.cells #[.slice none 0 0] 34)).alloc (Obj.cells #[.int .i64 0] 35)
    simp only [World.size_alloc] at this
    rw [hw6]; exact this
  have b8 : Boxed w6 (w.heap.size + 1 + 1) 3 (.int .i64 (round : Int)) := by
    have := (((Boxed.new ((w.alloc (Obj.cells #[.int .u64 (s : Int)] 22)).alloc (Obj.cells #[.int .i64 (worker : Int)] 3)) 3 (.int .i64 (round : Int))).alloc (Obj.cells #[.slice (some ⟨g, 0, none⟩) m cap] 34)).alloc (Obj.cells #[.slice none 0 0] 34)).alloc (Obj.cells #[.int .i64 0] 35)
    simp only [World.size_alloc] at this
    rw [hw6]; exact this
  have b11 : Boxed w6 (w.heap.size + 1 + 1 + 1) 34 (.slice (some ⟨g, 0, none⟩) m cap) := by
    have := ((Boxed.new (((w.alloc (Obj.cells #[.int .u64 (s : Int)] 22)).alloc (Obj.cells #[.int .i64 (worker : Int)] 3)).alloc (Obj.cells #[.int .i64 (round : Int)] 3)) 34 (.slice (some ⟨g, 0, none⟩) m cap)).alloc (Obj.cells #[.slice none 0 0] 34)).alloc (Obj.cells #[.int .i64 0] 35)
    simp only [World.size_alloc] at this
    rw [hw6]; exact this
  have b12 : Boxed w6 (w.heap.size + 1 + 1 + 1 + 1) 34 (.slice none 0 0) := by
    have := (Boxed.new ((((w.alloc (Obj.cells #[.int .u64 (s : Int)] 22)).alloc (Obj.cells #[.int .i64 (worker : Int)] 3)).alloc (Obj.cells #[.int .i64 (round : Int)] 3)).alloc (Obj.cells #[.slice (some ⟨g, 0, none⟩) m cap] 34)) 34 (.slice none 0 0)).alloc (Obj.cells #[.int .i64 0] 35)
    simp only [World.size_alloc] at this
    rw [hw6]; exact this
  have b13 : Boxed w6 (w.heap.size + 1 + 1 + 1 + 1 + 1) 35 (.int .i64 0) := by
    have := Boxed.new (((((w.alloc (Obj.cells #[.int .u64 (s : Int)] 22)).alloc (Obj.cells #[.int .i64 (worker : Int)] 3)).alloc (Obj.cells #[.int .i64 (round : Int)] 3)).alloc (Obj.cells #[.slice (some ⟨g, 0, none⟩) m cap] 34)).alloc (Obj.cells #[.slice none 0 0] 34)) 35 (.int .i64 0)
    simp only [World.size_alloc] at this
    rw [hw6]; exact this
  clear hw6
  have hbw1 : Below w6.heap.size w6 w1 := hb1
  have hs1 : w.heap.size + 6 ≤ w1.heap.size := by have := hbw1.size; omega
  have q : ∀ {B : Nat} {t : TypeId} {v : Value}, Boxed w6 B t v → Boxed w1 B t v := fun {B t v} h => (hbw1.block B h.lt).trans h
  have d6 := q b6; have d7 := q b7; have d8 := q b8; have d11 := q b11; have d12 := q b12; have d13 := q b13
  have hbw : Below w.heap.size w w1 := hbw6.trans (hbw1.mono hbw6.size)
  clear q b6 b7 b8 b11 b12 b13 hbw1 hb1 hbw6 hsz6
  have D6 := Lib.hid d6; have D7 := Lib.hid d7; have D8 := Lib.hid d8; have D11 := Lib.hid d11; have D12 := Lib.hid d12; have D13 := Lib.hid d13
  clear d6 d7 d8 d11 d12 d13
  have c11 := (D11.out.alloc (Obj.cells #[.slice none 0 0] 34)).cell
  obtain ⟨ss, hss⟩ : ∃ ss, ss = step * size := ⟨_, rfl⟩
  have hss2 : ss ≤ 63 * 64 := by rw [hss]; exact Nat.mul_le_mul h3 h5
  have hmul : (step : Int) * (size : Int) = (ss : Int) := by rw [hss]; exact (Int.natCast_mul step size).symm
  rw [M.batch, ← hss]
  have HSS := Lib.hid hss
  clear hss
  gi_wp2_with (fail)
  refine ⟨trivial, ?_⟩
  refine CallsIn.mono (turns_in Fence.wide _ trivial rfl _ _ _ _) ?_
  rintro e w2 ⟨rfl, hw2⟩
  have bO : Boxed w2 w1.heap.size 34 (.slice none 0 0) := by
    rw [hw2]; exact (((Boxed.new w1 34 _).alloc _).alloc _).alloc _
  have bQ : Boxed w2 (w1.heap.size + 1) 3 (.int .i64 (ss : Int)) := by
    have := ((Boxed.new (w1.alloc (Obj.cells #[.slice none 0 0] 34)) 3 (.int .i64 (ss : Int))).alloc (Obj.cells #[.int .i64 (size : Int)] 3)).alloc (Obj.cells #[.int .i64 (m : Int)] 3)
    rw [World.size_alloc] at this
    rw [hw2]; exact this
  have bS : Boxed w2 (w1.heap.size + 1 + 1) 3 (.int .i64 (size : Int)) := by
    have := (Boxed.new ((w1.alloc (Obj.cells #[.slice none 0 0] 34)).alloc (Obj.cells #[.int .i64 (ss : Int)] 3)) 3 (.int .i64 (size : Int))).alloc (Obj.cells #[.int .i64 (m : Int)] 3)
    simp only [World.size_alloc] at this
    rw [hw2]; exact this
  have bM : Boxed w2 (w1.heap.size + 1 + 1 + 1) 3 (.int .i64 (m : Int)) := by
    have := Boxed.new (((w1.alloc (Obj.cells #[.slice none 0 0] 34)).alloc (Obj.cells #[.int .i64 (ss : Int)] 3)).alloc (Obj.cells #[.int .i64 (size : Int)] 3)) 3 (.int .i64 (m : Int))
    simp only [World.size_alloc] at this
    rw [hw2]; exact this
  have hsz2 : w2.heap.size = w1.heap.size + 4 := by rw [hw2]; simp
  have hB2 : Below w1.heap.size w1 w2 := by
    rw [hw2]; exact ((((Below.refl _ w1).alloc (Nat.le_refl _) _).alloc (by simp) _).alloc (by simp; omega) _).alloc (by simp; omega) _
  clear hw2 c11
  rw [World.size_alloc]
  have BO := Lib.hid bO; have BQ := Lib.hid bQ; have BS := Lib.hid bS; have BM := Lib.hid bM
  clear bO bQ bS bM
  gi_wp2_with (fail)
  refine wpIn_rangeFunc_ownH (n := 9) rfl (by decide) (gf := 60) (lb := #[.pointer (some ⟨w1.heap.size + 1 + 1, 0, none⟩), .pointer (some ⟨w1.heap.size + 1, 0, none⟩), .pointer (some ⟨w1.heap.size + 1 + 1 + 1, 0, none⟩)]) rfl trivial (enters_of Try.func60 (by kernel_rfl) rfl)
    (turns_stops Fence.wide (9 - 1) trivial rfl (by decide) (w1.heap.size + 1 + 1) (w1.heap.size + 1) (w1.heap.size + 1 + 1 + 1) ss size m hm hm2 (by omega) w2 (by omega) (by omega) (by omega) BS.out.cell BQ.out.cell BM.out.cell)
    (fun x y => x.trans y) (fun W l o o' hl _ _ _ => ⟨World.putObj_heap_other (by omega), World.putObj_heap_other (by omega)⟩) (Below.refl _ _) (fun _ => rfl)
    (fun (pre : List (Turn m)) W => (∃ v, Boxed W w1.heap.size 34 v ∧ W.ownsRow w2.heap.size 3 1 v pre.length ((pre.map (M.batchAt s worker round m L)).map (Value.int .i64)) ∧ True) ∧ Below w1.heap.size w1 W ∧ w2.heap.size ≤ W.heap.size)
    (fun _ _ _ => False)
    (OwnFrom.and (Own.from (holdsRow_own w2.heap.size w1.heap.size 34 3 1 (fun (pre : List (Turn m)) => pre.length) (fun (pre : List (Turn m)) => (pre.map (M.batchAt s worker round m L)).map (Value.int .i64)) (fun _ _ => True)) _) (OwnFrom.and (ownFrom_below (Nat.le_refl _) (by omega)) (fun _ _ _ _ h hg _ => Nat.le_trans h hg.size)))
    (fun _ _ _ _ _ hs _ _ => hs)
    ⟨⟨_, BO.out, World.ownsRow_nil _ _ _ _, trivial⟩, hB2, Nat.le_refl _⟩
    (fun x a' W => ∃ Bx, w2.heap.size ≤ Bx ∧ W.heap[Bx]? = some (.cells #[.int .i64 (x.1.1 : Int), .int .i64 (x.1.2 : Int)] 93 (0, 0)) ∧ a' = { tmps := #[.int .u64 (s : Int), .int .i64 (worker : Int), .int .i64 (round : Int), .int .i64 (step : Int), .int .i64 (size : Int), .slice (some ⟨g, 0, none⟩) m cap, .pointer (some ⟨w.heap.size, 0, none⟩), .pointer (some ⟨w.heap.size + 1, 0, none⟩), .pointer (some ⟨w.heap.size + 1 + 1, 0, none⟩), undef, undef, .pointer (some ⟨w.heap.size + 1 + 1 + 1, 0, none⟩), .pointer (some ⟨w.heap.size + 1 + 1 + 1 + 1, 0, none⟩), .pointer (some ⟨w.heap.size + 1 + 1 + 1 + 1 + 1, 0, none⟩), .pointer (some ⟨w1.heap.size, 0, none⟩), .pointer (some ⟨Bx, 0, none⟩), undef, undef, undef, .int .i64 (worker : Int), .agg #[.int .i64 (worker : Int), .int .i64 0, .int .i64 63], .int .i64 (round : Int), .agg #[.int .i64 (round : Int), .int .i64 0, .int .i64 256], .int .i64 (step : Int), .agg #[.int .i64 (step : Int), .int .i64 0, .int .i64 63], .int .i64 (size : Int), .agg #[.int .i64 (size : Int), .int .i64 1, .int .i64 64], .slice (some ⟨g, 0, none⟩) m cap, .int .i64 (m : Int), .agg #[.int .i64 (m : Int), .int .i64 1, .int .i64 4096], .slice (some ⟨w.heap.size + 1 + 1 + 1 + 1 + 1 + 1, 0, none⟩) 5 5, .bool true, .bool false, .int .i64 (step : Int), .int .i64 (size : Int), .int .i64 (ss : Int), .int .i64 (size : Int), .slice (some ⟨g, 0, none⟩) m cap, .int .i64 (m : Int), .func (.func 60) #[] #[.pointer (some ⟨w1.heap.size + 1 + 1, 0, none⟩), .pointer (some ⟨w1.heap.size + 1, 0, none⟩), .pointer (some ⟨w1.heap.size + 1 + 1 + 1, 0, none⟩)], Value.agg #[.int .i64 (x.1.1 : Int), .int .i64 (x.1.2 : Int)], undef, undef, undef, undef, undef, undef, undef, undef, undef, undef, undef, undef, undef, undef, undef, undef, undef, undef, undef, undef, undef, undef, undef, undef, undef, undef, undef, undef], defers := [] })
    (fun x a' _ X Y row hs hg hr => by
      obtain ⟨Bx, h1, h2, h3⟩ := hs
      refine ⟨Bx, h1, (hg.block Bx (Array.getElem?_eq_some_iff.1 h2).1 (fun e' => ?_)).trans h2, h3⟩
      obtain ⟨_, o, ho, hc⟩ := hr Bx e'.symm
      rw [h2] at ho; cases ho; cases hc)
    ?assign ?body ?done ?stop
  case assign =>
    rintro l pre x W K ⟨⟨v, hv, hrow, _⟩, hB, hle⟩ hK
    gi_wp2
    exact hK _ _ ((KeepsOthers.alloc _ _).from _) ⟨(World.grownBy_alloc W _ none).block _ (by omega) (by simp), (World.grownBy_alloc W _ none).block _ (by omega) (by simp)⟩
      ⟨⟨v, hv.alloc _, hrow.alloc _, trivial⟩, hB.alloc hB.size _, by simp; omega⟩ ⟨W.heap.size, hle, World.alloc_heap_new W _, rfl⟩
  case body =>
    rintro l pre x a' W hl ⟨r, hr⟩ ⟨⟨v, hv, hrow, _⟩, hB, hle⟩ ⟨Bx, hBx, hX, rfl⟩ hlt
    have hk : ∀ {B : Nat} {t : TypeId} {v : Value}, B < w1.heap.size → Boxed w1 B t v → Boxed W B t v := fun {B t v} hb h => (hB.block B hb).trans h
    have c6 := (hk (by omega) D6.out).cell
    have c7 := (hk (by omega) D7.out).cell
    have c8 := (hk (by omega) D8.out).cell
    have c11 := (hk (by omega) D11.out).cell
    have x0 : W.cell? ⟨Bx, 0, none⟩ = some (.int .i64 (x.1.1 : Int)) := by simp [World.cell?, hX]
    have x1 : W.cell? ⟨Bx, 1, none⟩ = some (.int .i64 (x.1.2 : Int)) := by simp [World.cell?, hX]
    obtain ⟨⟨tp, ta⟩, ht1, ht2⟩ := x
    dsimp only at ht1 ht2 x0 x1 hX ⊢
    have y11 := ((hk (by omega) D11.out).alloc (Obj.cells #[.int .u64 (s : Int), .int .i64 2, .int .i64 (worker : Int), .int .i64 ((round : Int) * 65536 + (tp : Int))] 24)).cell
    have y1 : (W.alloc (Obj.cells #[.int .u64 (s : Int), .int .i64 2, .int .i64 (worker : Int), .int .i64 ((round : Int) * 65536 + (tp : Int))] 24)).cell? ⟨Bx, 1, none⟩ = some (.int .i64 (ta : Int)) := (World.cell?_of_block (a := ⟨Bx, 1, none⟩) ((World.grownBy_alloc W _ none).block Bx (Array.getElem?_eq_some_iff.1 hX).1 (by simp))).trans x1
    have HX := Lib.hid hX
    have HV := Lib.hid hv
    have HR := Lib.hid hr
    clear hX hv hk hr
    gi_wp2_with (fail)
    refine ⟨trivial, ?_⟩
    refine CallsIn.mono (CallsIn.inRound l (callsIn_wide.2 (Place_any s 2 (worker : Int) ((round : Int) * 65536 + (tp : Int)) m ta _ (by omega) ht1))) ?_
    rintro e w3 ⟨rfl, hb3⟩
    have hb3' := Lib.hid hb3
    clear hb3 y11 y1 c6 c7 c8 c11 x0 x1
    have hp := M.plc_lt s 2 (worker : Int) ((round : Int) * 65536 + (tp : Int)) (by omega : m ≤ 65536) ht1
    obtain ⟨p, hpe⟩ : ∃ p, p = M.plc s 2 (worker : Int) ((round : Int) * 65536 + (tp : Int)) m ta := ⟨_, rfl⟩
    rw [← hpe] at hp ⊢
    have HP := Lib.hid hpe
    clear hpe
    have hbx : Below W.heap.size W w3 := ((Below.refl _ W).alloc (Nat.le_refl _) _).trans (hb3'.out.mono (by simp))
    have v3 : Boxed w3 w1.heap.size 34 v := (hbx.block _ HV.out.lt).trans HV.out
    have hrow3 := owns_below hrow hbx
    have o3 : Boxed w3 (w.heap.size + 1 + 1 + 1) 34 (.slice (some ⟨g, 0, none⟩) m cap) := (hbx.block _ (by omega)).trans ((hB.block _ (by omega)).trans D11.out)
    have g3 := (hbx.cell (World.block_lt_of_cell? _ _ (((hbw.trans (hB.mono (by omega))).cell (World.block_lt_of_cell? _ _ (HC.out p hp))).trans (HC.out p hp)))).trans (((hbw.trans (hB.mono (by omega))).cell (World.block_lt_of_cell? _ _ (HC.out p hp))).trans (HC.out p hp))
    have vc := v3.cell
    have oc := o3.cell
    have V3 := Lib.hid v3
    have HB3 := Lib.hid hbx
    have O3 := Lib.hid o3
    have ROW3 := Lib.hid hrow3
    clear v3 o3 hbx
    gi_wp2_with (fail)
    obtain ⟨i0, hi, hz0, hz1, hz2⟩ := info_parts Try.info3
    have hdr : (w3.drew).ownsRow w2.heap.size 3 1 v pre.length ((pre.map (M.batchAt s worker round m L)).map (Value.int .i64)) := hrow3
    have hlen : pre.length ≤ 64 := by omega
    obtain ⟨v', w4, hrun, r1, r2, r3⟩ := run_append_own (P := Try.prog) (w := w3.drew.alloc (Obj.cells #[.int .i64 (nth L p)] 3)) w2.heap.size 34 34 3 i0 (.int .i64 0) 1 8 Try.underlying34 hi hz0 hz1 hz2 rfl (by decide) v pre.length _ (hdr.alloc _) ⟨w3.heap.size, 0, none⟩ 1 1 [.int .i64 (nth L p)] rfl (cell_one_new _ _ _) (by simp [Value.oneCell']) (by unfold maxLen; omega) (by omega) (by rw [World.size_alloc]; have := HB3.out.size; show w2.heap.size ≤ w3.heap.size + 1; omega)
    obtain ⟨g', cap', rfl⟩ := ownsRow_succ r1
    have R1 := Lib.hid r1; have R2 := Lib.hid r2
    clear r1 r2 r3 hdr hi hz0 hz1 hz2 hrow hrow3
    have hvn : some w1.heap.size ≠ v.ownBlock := V3.out.not_row (by decide) ROW3.out
    have d14 : Boxed w4 w1.heap.size 34 v := Boxed.kept (Boxed.alloc (W := w3.drew) (show Boxed w3.drew w1.heap.size 34 v from V3.out) _) R2.out hvn
    have dl := d14.cell
    have df := d14.frozen
    have D14 := Lib.hid d14
    clear d14 hvn
    refine areg _ _ l rfl _ w3 w4 (w.heap.size + 1 + 1 + 1) w1.heap.size g cap g' cap' m (pre.length + 1) p (nth L p) v _ _ _ _ _ _ _ _ _ _ _ _ _ _ _ _ _ _ _ _ _ _ _ _ _ _ _ _ _ _ _ _ _ _ _ _ _ _ _ _ _ _ _ _ _ _ _ _ _ _ _ _ _ _ _ _ _ _ _ _ _ _ _ _ _ _ oc vc g3 hp (Boxed.alloc (W := w3.drew) (show Boxed w3.drew (w.heap.size + 1 + 1 + 1) 34 _ from O3.out) _).cell (Boxed.alloc (W := w3.drew) (show Boxed w3.drew w1.heap.size 34 v from V3.out) _).cell dl df hrun ?_
    change KeepsFrom _ _ _ ∧ Keep2 _ _ _ _ ∧ _
    have hbx := HB3.out
    have r2 := R2.out
    have hr3 := ROW3.out
    have d14 := D14.out
    have hne : ∀ b, b < w2.heap.size → some b ≠ v.ownBlock := fun b hb => row_low hr3 hb
    have sz3 : W.heap.size ≤ w3.heap.size := hbx.size
    have ko1 : KeepsOthers W w3 := ⟨hbx.size, fun k o hk ho => (hbx.block k (Array.getElem?_eq_some_iff.1 hk).1).trans hk⟩
    have ko2 : KeepsOthers w3 w4 := (KeepsOthers.drew w3).trans <| (KeepsOthers.alloc w3.drew (Obj.cells #[Value.int IntKind.i64 (nth L p)] 3)).trans (KeepsOthers.of_grownBy r2 fun q o eq hq => by
      rcases hr3.2 with ⟨rfl, _⟩ | ⟨gg, cap1, cur, rfl, _, hgb, _⟩
      · simp [Value.ownBlock] at eq
      · obtain rfl : gg = q := by simpa [Value.ownBlock] using eq
        have hgl : gg < w3.heap.size := (Array.getElem?_eq_some_iff.1 hgb).1
        have h5 : (w3.drew.alloc (Obj.cells #[Value.int IntKind.i64 (nth L p)] 3)).heap[gg]? = w3.heap[gg]? := Below.heap_alloc w3.drew _ _ hgl
        rw [h5, hgb] at hq; cases hq; rfl)
    have blk : ∀ b, b < w2.heap.size → b ≠ w1.heap.size → (w4.setCell ⟨w1.heap.size, 0, none⟩ (Value.slice (some ⟨g', 0, none⟩) (pre.length + 1) cap')).heap[b]? = W.heap[b]? := fun b hb hb1 => by
      rw [(grownBy_setCell' w4 w1.heap.size _).block b (by have := ko2.size; omega) (fun e => hb1 (by simpa using e))]
      rw [r2.block b (by rw [World.size_alloc]; show b < w3.heap.size + 1; omega) (hne b hb)]
      rw [Below.heap_alloc w3.drew _ _ (show b < w3.heap.size by omega)]
      exact hbx.block b (by omega)
    refine ⟨((ko1.trans ko2).trans (KeepsOthers.setCell _ _ _)).from _, ⟨blk _ (by omega) (by omega), blk _ (by omega) (by omega)⟩, ⟨_, d14.set _, ?_, trivial⟩, ?_, ?_⟩
    · have h6 := (R1.out).kept (grownBy_setCell' w4 w1.heap.size (Value.slice (some ⟨g', 0, none⟩) (pre.length + 1) cap')) (.inr (d14.not_row (by decide) R1.out).symm)
      have e7 : M.batchAt s worker round m L ⟨(tp, ta), ⟨ht1, ht2⟩⟩ = nth L p := by rw [HP.out]; rfl
      simp only [List.length_append, List.map_append, List.map_cons, List.map_nil, List.length_singleton, e7]
      exact h6
    · refine ((((hB.trans (hbx.mono (by omega))).drew.alloc (show w1.heap.size ≤ w3.drew.heap.size by show w1.heap.size ≤ w3.heap.size; omega) (Obj.cells #[Value.int IntKind.i64 (nth L p)] 3)).grown r2 (by rw [World.size_alloc]; show w1.heap.size ≤ w3.heap.size + 1; omega) fun q eq => ?_).setCell (p := ⟨w1.heap.size, 0, none⟩) (Nat.le_refl _) _)
      rcases Nat.lt_or_ge q w1.heap.size with h7 | h7
      · exact absurd eq.symm (hne q (by omega))
      · exact h7
    · have := ko2.size
      simp
      omega
  case done =>
    rintro D ys W hD rfl ⟨⟨v, hv, hrow, _⟩, hB, hle⟩ hK
    obtain ⟨g', cap', hform⟩ := ownsRow_form hrow (by rw [turnsTo_length]; omega)
    subst hform
    have hc := hv.cell
    have hD12 : Boxed W (w.heap.size + 1 + 1 + 1 + 1) 34 (.slice none 0 0) := (hB.block _ (by omega)).trans D12.out
    have hD13 : Boxed W (w.heap.size + 1 + 1 + 1 + 1 + 1) 35 (.int .i64 0) := (hB.block _ (by omega)).trans D13.out
    have f12 := hD12.frozen
    have f13 := hD13.frozen
    have c12 := hD12.cell
    have c13 := hD13.cell
    have HD12 := Lib.hid hD12; have HD13 := Lib.hid hD13
    clear hD12 hD13
    gi_wp2
    obtain ⟨v0, hv0⟩ : ∃ v0, v0 = Value.slice (some ⟨g', 0, none⟩) (turnsTo ss m size hm).length cap' := ⟨_, rfl⟩
    rw [← hv0] at hrow ⊢
    have hK1 := (KeepsOthers.setCell W ⟨w.heap.size + 1 + 1 + 1 + 1, 0, none⟩ v0).same D _ hK rfl
    have hK2 := (KeepsOthers.setCell (W.setCell ⟨w.heap.size + 1 + 1 + 1 + 1, 0, none⟩ v0) ⟨w.heap.size + 1 + 1 + 1 + 1 + 1, 0, none⟩ (.int .i64 0)).same D _ hK1 rfl
    refine ⟨by simp, .inl ⟨_, _, rfl, run_takeDeferred hK2, ?_⟩⟩
    have n12 : Boxed ((W.setCell ⟨w.heap.size + 1 + 1 + 1 + 1, 0, none⟩ v0).setCell ⟨w.heap.size + 1 + 1 + 1 + 1 + 1, 0, none⟩ (.int .i64 0)) (w.heap.size + 1 + 1 + 1 + 1) 34 v0 := (HD12.out.set v0).other (by omega) _
    have n13 : Boxed ((W.setCell ⟨w.heap.size + 1 + 1 + 1 + 1, 0, none⟩ v0).setCell ⟨w.heap.size + 1 + 1 + 1 + 1 + 1, 0, none⟩ (.int .i64 0)) (w.heap.size + 1 + 1 + 1 + 1 + 1) 35 (.int .i64 0) := (HD13.out.other (by omega) _).set _
    have m12 := (n12.kept (grownBy_putObj' _ D (.deferred none)) (by intro e; cases e; omega)).cell
    have m13 := (n13.kept (grownBy_putObj' _ D (.deferred none)) (by intro e; cases e; omega)).cell
    refine ⟨.tuple #[v0, .int .i64 0], by simp [results, Try.f35, go_sem, m12, m13], v0, rfl, ?_, ?_⟩
    · have hg' := (hrow.lt g' (by rw [hv0]; rfl)).1
      have hown0 : v0.ownBlock = some g' := by rw [hv0]; rfl
      have r1 := (hrow.kept (grownBy_setCell' W (w.heap.size + 1 + 1 + 1 + 1) v0) (.inr (by rw [hown0]; intro e; cases e; omega)))
      have r2 := (r1.kept (grownBy_setCell' _ (w.heap.size + 1 + 1 + 1 + 1 + 1) (.int .i64 0)) (.inr (by rw [hown0]; intro e; cases e; omega)))
      have r3 := ownsRow_putObj r2 (.deferred none) hK2 rfl
      have hl := turnsTo_length ss m size hm
      rw [M.batch, ← HSS.out]
      rw [show (List.map (M.batchAt s worker round m L) (turnsTo ss m size hm)).length = (turnsTo ss m size hm).length by simp]
      exact ownsRow_le r3 (by omega)
    · refine hbw.trans ?_
      refine ((((hB.mono (by omega)).setCell (p := ⟨w.heap.size + 1 + 1 + 1 + 1, 0, none⟩) (show w.heap.size ≤ w.heap.size + 1 + 1 + 1 + 1 by omega) v0).setCell (p := ⟨w.heap.size + 1 + 1 + 1 + 1 + 1, 0, none⟩) (show w.heap.size ≤ w.heap.size + 1 + 1 + 1 + 1 + 1 by omega) (.int .i64 0))).trans ?_
      exact belowK_b (w := w) (Nat.le_refl _) _ D _ _ (by omega) hK2 rfl rfl
  case stop =>
    rintro D c pre W _ _ h _
    exact h.elim

end Go.Proofs.Ytcojiienmmmihaa
