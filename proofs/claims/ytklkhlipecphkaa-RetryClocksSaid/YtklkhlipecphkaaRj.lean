/- Retry: the document's clock: Stop, Start. -/
import Derived.Test.YtklkhlipecphkaaRi
import Derived.Laws.AppendOwn
import Derived.Deep.RegionLaw
namespace Go.Proofs.Ytklkhlipecphkaa
open Go.RowKit Go.Joins Go.Maps
set_option maxRecDepth 100000
set_option linter.unusedVariables false

theorem info100 : (Try.prog.info? 100).map (fun i => (i.zero, i.size, i.bytes)) = some (some (.agg #[.int .i64 0, .int .i64 0, .int .i64 0]), 3, 24) := by kernel_rfl
theorem owns_below {w w' : World} {base e size n : Nat} {v : Value} {xs : List Value} (h : w.ownsRow base e size v n xs) (hb : Below w.heap.size w w') : w'.ownsRow base e size v n xs :=
  h.kept (row := none) ⟨hb.os, hb.tape, hb.output, hb.size, fun k hk _ => hb.block k hk⟩ (by cases v.ownBlock <;> simp)
theorem cell_three_new (w : World) (t : Tm) : ∀ (j : Nat) (u : Value), (tcells t)[j]? = some u → (w.alloc (.cells #[.int .i64 t.1, .int .i64 t.2.1, .int .i64 t.2.2] 100)).cell? ((⟨w.heap.size, 0, none⟩ : Addr).add j) = some u := fun j u hu => by
  match j, hu with
  | 0, hu => simp [tcells] at hu; subst hu; simp [go_sem, Addr.add]
  | 1, hu => simp [tcells] at hu; subst hu; simp [go_sem, Addr.add]
  | 2, hu => simp [tcells] at hu; subst hu; simp [go_sem, Addr.add]
  | j + 3, hu => simp [tcells] at hu
theorem tcells_one (t : Tm) : ∀ u ∈ tcells t, u.oneCell' = true := by
  intro u hu
  simp [tcells] at hu
  rcases hu with rfl | rfl | rfl <;> rfl

theorem wp_append_run {P : Program} {o : Oper} {a : Act} {w w4 : World} {K : Act → World → Prop} {Q : Exit → Act → World → Prop} {s x : Operand} {t : TypeId} {v y r : Value}
    (hop : o.op = Op.call { callee := Callee.builtin Builtin.append, args := #[s, x], argTypes := #[t, t] }) (hs : a.eval s = v) (hx : a.eval x = y)
    (hrun : (Builtin.append_ #[t, t] o.type #[v, y]).run P w = .ok r w4) (hK : K (a.put o.dst r) w4) : Oper.wp P o a w K Q := by
  unfold Oper.wp
  simp [execOp, hop, resolve, invoke, builtin, hs, hx, hrun, Result.andThen]
  exact hK

/-- The timers of other names among the first k. -/
def flt (L : List Tm) (x : Int) (k : Nat) : List Tm := (L.take k).filter (fun t => !(t.1 == x))
theorem flt_zero (L : List Tm) (x : Int) : flt L x 0 = [] := by simp [flt]
theorem take_succ_tm (L : List Tm) {k : Nat} (h : k < L.length) : L.take (k + 1) = L.take k ++ [tm L k] := by
  rw [List.take_succ_eq_append_getElem h]
  simp [tm, List.getD_eq_getElem?_getD, h]
theorem flt_yes (L : List Tm) (x : Int) {k : Nat} (h : k < L.length) (he : (tm L k).1 ≠ x) : flt L x (k + 1) = flt L x k ++ [tm L k] := by
  unfold flt
  rw [take_succ_tm L h, List.filter_append]
  simp [he]
theorem flt_no (L : List Tm) (x : Int) {k : Nat} (h : k < L.length) (he : (tm L k).1 = x) : flt L x (k + 1) = flt L x k := by
  unfold flt
  rw [take_succ_tm L h, List.filter_append]
  simp [he]
theorem flt_all (L : List Tm) (x : Int) : flt L x L.length = L.filter (fun t => !(t.1 == x)) := by simp [flt]
theorem flt_len (L : List Tm) (x : Int) (k : Nat) : (flt L x k).length ≤ L.length := Nat.le_trans (List.length_filter_le _ _) (by rw [List.length_take]; omega)

theorem Ref.stored {N B : Nat} {v v' : Value} {base most now : Int} {L L' : List Tm} {w : World} (h : Ref N B v base most now L w) (ho : w.ownsRow N 100 3 v' L'.length (lcells L')) : Ref N B v' base most now L' (w.setCell ⟨B, 3, none⟩ v') := by
  refine ⟨h.hB, (heap_setCell_same w B 3 _ _ v' h.box).trans rfl, ho.kept (grown_set _ _ _) ?_⟩
  rcases ho.2 with ⟨rfl, _⟩ | ⟨g, cap, cur, rfl, _, hg, _⟩
  · exact .inl rfl
  · refine .inr (fun e => ?_)
    obtain rfl : g = B := by simpa [Value.ownBlock] using e
    have hb := h.box
    rw [hg] at hb
    cases hb
theorem stored_box {N B : Nat} {v v' : Value} {base most now : Int} {L' : List Tm} {w : World} (hB : N ≤ B) (hb : w.heap[B]? = some (.cells #[.int .i64 base, .int .i64 most, .int .i64 now, v] 63 (0, 0))) (ho : w.ownsRow N 100 3 v' L'.length (lcells L')) : Ref N B v' base most now L' (w.setCell ⟨B, 3, none⟩ v') := by
  refine ⟨hB, (heap_setCell_same w B 3 _ _ v' hb).trans rfl, ho.kept (grown_set _ _ _) ?_⟩
  rcases ho.2 with ⟨rfl, _⟩ | ⟨g, cap, cur, rfl, _, hg, _⟩
  · exact .inl rfl
  · refine .inr (fun e => ?_)
    obtain rfl : g = B := by simpa [Value.ownBlock] using e
    rw [hg] at hb
    cases hb
theorem Ref.not_row {N B : Nat} {v : Value} {base most now : Int} {L : List Tm} {w : World} (h : Ref N B v base most now L w) : some B ≠ v.ownBlock := by
  rcases h.row.2 with ⟨rfl, _⟩ | ⟨g, cap, cur, rfl, _, hg, _⟩
  · simp [Value.ownBlock]
  · intro e
    obtain rfl : B = g := by simpa [Value.ownBlock] using e
    have hb := h.box
    rw [hg] at hb
    cases hb
theorem Ref.row_not_clk {N B : Nat} {v : Value} {base most now : Int} {L : List Tm} {w : World} (h : Ref N B v base most now L w) {j : Nat} {o : Obj} (e : v.ownBlock = some j) (ho : w.heap[j]? = some o) : ¬ isClk o := by
  rcases h.row.2 with ⟨rfl, _⟩ | ⟨g, cap, cur, rfl, _, hg, _⟩
  · simp [Value.ownBlock] at e
  · obtain rfl : g = j := by simpa [Value.ownBlock] using e
    rw [hg] at ho
    cases ho
    exact not_clk _ _ _ (by decide)
theorem keeps_set {w : World} {B o : Nat} {v : Value} {c : Array Value} {t : TypeId} {fz : Nat × Nat} (h : w.heap[B]? = some (.cells c t fz)) (ht : t ≠ 70 ∧ t ≠ 65) : Keeps isClk w (w.setCell ⟨B, o, none⟩ v) :=
  Keeps.of_grown (grown_set _ _ _) (fun j o' e ho => by cases e; rw [h] at ho; cases ho; exact not_clk _ _ _ ht)

set_option maxHeartbeats 4000000 in
theorem rStop_any {N B : Nat} {v : Value} {base most now : Int} {L : List Tm} {w : World} (h : Ref N B v base most now L w) (x : Int) (hl : L.length ≤ 1000) :
    Calls Try.prog 34 #[.pointer (some ⟨B, 0, none⟩), .int .i64 x] w fun e w' => ∃ v', e = .returned (.bool (decide ((flt L x L.length).length < L.length))) ∧ Ref N B v' base most now (flt L x L.length) w' ∧ Below N w w' ∧ Keeps isClk w w' := by
  obtain ⟨i0, hi, hz0, hz1, hz2⟩ := info_parts info100
  have HZ0 := Lib.hid hz0; have HZ1 := Lib.hid hz1; have HZ2 := Lib.hid hz2; have HI := Lib.hid hi
  clear hz0 hz1 hz2 hi
  have HREF := Lib.hid h
  obtain ⟨oa, cap, rfl, hc⟩ := h.slice
  have HC := Lib.hid hc
  have hBlt := h.lt
  have hNB := h.hB
  clear h hc
  obtain ⟨n, hn⟩ : ∃ n, n = L.length := ⟨_, rfl⟩
  have HN := Lib.hid hn
  rw [← hn] at HC hl ⊢
  clear hn
  go_enter Try.func34, Try.ntmps34
  go_wp2_with fail
  go_loopw [5, 6] (fun rest i wr => ∃ k : Nat, k ≤ n ∧ i = .int .i64 (k : Int) ∧ wr.ownsRow w.heap.size 100 3 rest (flt L x k).length (lcells (flt L x k)) ∧ Below w.heap.size w wr) (fun _ i _ => n - (intOf i).toNat)
  case atStart => exact ⟨0, Nat.zero_le _, rfl, by rw [flt_zero]; exact World.ownsRow_nil _ _ _ _, Below.refl _ _⟩
  case round =>
    obtain ⟨k, hk, rfl, hown, hbl⟩ := hrel
    have hrefk := HREF.out.keeps (Keeps.of_below hbl)
    have c3 := hrefk.c3
    rw [← HN.out] at c3
    have HRK := Lib.hid hrefk
    have HBL := Lib.hid hbl
    have HO := Lib.hid hown
    clear hrefk hbl hown
    by_cases hlt : k < n
    · obtain ⟨g, rfl, y0, y1, y2⟩ := HC.out k hlt
      have x0 := (HBL.out.cell (World.block_lt_of_cell? _ _ y0)).trans y0
      have x1 := (HBL.out.cell (World.block_lt_of_cell? _ _ y1)).trans y1
      have x2 := (HBL.out.cell (World.block_lt_of_cell? _ _ y2)).trans y2
      clear y0 y1 y2
      obtain ⟨t, ht⟩ : ∃ t, t = tm L k := ⟨_, rfl⟩
      rw [← ht] at x0 x1 x2
      have HT := Lib.hid ht
      clear ht
      obtain ⟨t0, t1, t2⟩ := t
      dsimp only at x0 x1 x2
      by_cases he : t0 = x
      · have e1 : (t0 == x) = true := by simp [he]
        have e2 : decide (t0 = x) = true := by simp [he]
        have e3 : (t0 != x) = false := by simp [he]
        have hf := flt_no L x (k := k) (by rw [← HN.out]; exact hlt) (by rw [← HT.out]; exact he)
        have HF := Lib.hid hf
        clear he hf
        go_wp2_with fail
        go_roundw
        case rel => exact ⟨k + 1, by omega, by go_num, by rw [HF.out]; exact HO.out, HBL.out⟩
        case measure => simp [intOf]; omega
      · have e1 : (t0 == x) = false := by simp [he]
        have e2 : decide (t0 = x) = false := by simp [he]
        have e3 : (t0 != x) = true := by simp [he]
        have hf := flt_yes L x (k := k) (by rw [← HN.out]; exact hlt) (by rw [← HT.out]; exact he)
        rw [← HT.out] at hf
        have HF := Lib.hid hf
        have hfl := flt_len L x k
        rw [← HN.out] at hfl
        clear he hf
        go_wp2_with (at_builtin; refine wpList_append_own _ rfl (.tmp 27) (.tmp 35) 61 rfl w.heap.size 100 i0 (.agg #[.int .i64 0, .int .i64 0, .int .i64 0]) 3 24 Try.underlying61 HI.out HZ0.out HZ1.out HZ2.out rfl (by decide) _ (flt L x k).length _ rfl (HO.out.alloc _) ⟨wr.heap.size, 0, none⟩ 1 1 (tcells (t0, t1, t2)) rfl rfl (cell_three_new _ (t0, t1, t2)) (tcells_one _) (by unfold maxLen; omega) (by omega) (by have := HBL.out.size; simp; omega) ?_; intro v1 w6 hown6 hgrow6 hnil6)
        have hsz := HBL.out.size
        have hB7 := (HBL.out.alloc hsz (Obj.cells #[.int .i64 t0, .int .i64 t1, .int .i64 t2] 100)).grown hgrow6 (by simp; omega) (fun q hq => (HO.out.lt q hq).1)
        go_roundw
        case rel => exact ⟨k + 1, by omega, by go_num, by rw [HF.out, lcells_append, List.length_append]; simpa [lcells] using hown6, hB7⟩
        case measure => simp [intOf]; omega
    · have hkn : k = n := by omega
      rw [hkn] at HO
      clear hkn
      have hst := HRK.out.stored (ownsRow_le HO.out (by omega : N ≤ w.heap.size))
      have hbs : Below N w (wr.setCell ⟨B, 3, none⟩ u5) := (HBL.out.mono (by omega)).setCell (p := ⟨B, 3, none⟩) hNB u5
      have hks : Keeps isClk w (wr.setCell ⟨B, 3, none⟩ u5) := (Keeps.of_below HBL.out).trans (keeps_set HRK.out.box (by decide))
      have fz := HRK.out.fz 3
      have HST := Lib.hid hst
      have HBS := Lib.hid hbs
      have HKS := Lib.hid hks
      have hml := flt_len L x n
      rw [← HN.out] at hml
      clear hst hbs hks
      obtain ⟨m, hm⟩ : ∃ m, m = (flt L x n).length := ⟨_, rfl⟩
      rw [← hm] at hml HO
      have HMM := Lib.hid hm
      obtain ⟨ob, cb, rfl⟩ : ∃ ob cb, u5 = .slice ob m cb := by
        rcases ownsRow_forms HO.out with ⟨h, h0⟩ | ⟨g, cp, h⟩
        · exact ⟨none, 0, by rw [h, h0]⟩
        · exact ⟨_, cp, h⟩
      clear hm
      by_cases hmn : m < n
      · have e1 : decide ((m : Int) < (n : Int)) = true := decide_eq_true (by omega)
        go_wp2_with fail
        go_ret
        exact ⟨_, by rw [← HMM.out, decide_eq_true hmn]; rfl, HST.out, HBS.out, HKS.out⟩
      · have e1 : decide ((m : Int) < (n : Int)) = false := decide_eq_false (by omega)
        go_wp2_with fail
        go_ret
        exact ⟨_, by rw [← HMM.out, decide_eq_false hmn]; rfl, HST.out, HBS.out, HKS.out⟩

set_option maxHeartbeats 4000000 in
theorem rStart_any {N B : Nat} {v : Value} {base most now : Int} {L : List Tm} {w : World} (h : Ref N B v base most now L w) (x : Int) (hl : L.length ≤ 1000) :
    Calls Try.prog 33 #[.pointer (some ⟨B, 0, none⟩), .int .i64 x] w fun e w' => ∃ v', e = .returned (.tuple #[]) ∧ Ref N B v' base most now (flt L x L.length ++ [(x, now, 0)]) w' ∧ Below N w w' ∧ Keeps isClk w w' := by
  obtain ⟨i0, hi, hz0, hz1, hz2⟩ := info_parts info100
  have HZ0 := Lib.hid hz0; have HZ1 := Lib.hid hz1; have HZ2 := Lib.hid hz2; have HI := Lib.hid hi
  clear hz0 hz1 hz2 hi
  have HSTOP := Lib.hid (rStop_any h x hl)
  have hfl := flt_len L x L.length
  clear h
  go_enter Try.func33, Try.ntmps33
  go_wp2_with fail
  refine HSTOP.out.mono ?_
  rintro e w1 ⟨v1, rfl, hr1, hb1, hk1⟩
  obtain ⟨F, hF⟩ : ∃ F, F = flt L x L.length := ⟨_, rfl⟩
  rw [← hF] at hr1 hfl
  have HFF := Lib.hid hF
  clear hF HSTOP
  have hNs : N ≤ w1.heap.size := Nat.le_trans hr1.hB (Nat.le_of_lt hr1.lt)
  -- the append, at the world behind the draw and the new element's block
  obtain ⟨v', w2, hrun, hown2, hg2, _⟩ := run_append_own (P := Try.prog) (w := w1.drew.alloc (Obj.cells #[.int .i64 x, .int .i64 now, .int .i64 0] 100)) N 61 61 100 i0 (.agg #[.int .i64 0, .int .i64 0, .int .i64 0]) 3 24 Try.underlying61 HI.out HZ0.out HZ1.out HZ2.out rfl (by decide) v1 F.length _ (World.ownsRow.alloc (w := w1.drew) hr1.row _) ⟨w1.heap.size, 0, none⟩ 1 1 (tcells (x, now, 0)) rfl (cell_three_new w1.drew (x, now, 0)) (tcells_one _) (by unfold maxLen; omega) (by omega) (by rw [World.size_alloc]; show N ≤ w1.heap.size + 1; omega)
  obtain ⟨g', cap', rfl⟩ : ∃ g cap, v' = .slice (some ⟨g, 0, none⟩) (F.length + 1) cap := by
    rcases ownsRow_forms hown2 with ⟨_, h⟩ | ⟨g, cap, h⟩
    · omega
    · exact ⟨g, cap, h⟩
  have hbox1 : (w1.drew.alloc (Obj.cells #[.int .i64 x, .int .i64 now, .int .i64 0] 100)).heap[B]? = some (.cells #[.int .i64 base, .int .i64 most, .int .i64 now, v1] 63 (0, 0)) := (Below.heap_alloc w1.drew _ _ hr1.lt).trans hr1.box
  have hbox2 : w2.heap[B]? = some (.cells #[.int .i64 base, .int .i64 most, .int .i64 now, v1] 63 (0, 0)) := (hg2.block B (by rw [World.size_alloc]; have := hr1.lt; show B < w1.heap.size + 1; omega) hr1.not_row).trans hbox1
  have c2 := hr1.c2
  have c3 := hr1.c3
  have a3 : (w1.alloc (Obj.cells #[.int .i64 x, .int .i64 now, .int .i64 0] 100)).cell? ⟨B, 3, none⟩ = some v1 := by
    have : (w1.alloc (Obj.cells #[.int .i64 x, .int .i64 now, .int .i64 0] 100)).heap[B]? = _ := hbox1
    simp [World.cell?, this]
  have d3 : w2.cell? ⟨B, 3, none⟩ = some v1 := by simp [World.cell?, hbox2]
  have f3 : w2.frozen? ⟨B, 3, none⟩ = false := by simp [World.frozen?, hbox2]
  have hst := stored_box (L' := F ++ [(x, now, 0)]) hr1.hB hbox2 (by rw [lcells_append, List.length_append]; simpa [lcells] using hown2)
  have hks : Keeps isClk w1 (w2.setCell ⟨B, 3, none⟩ (.slice (some ⟨g', 0, none⟩) (F.length + 1) cap')) := by
    refine Keeps.trans (Keeps.trans (b := w1.drew.alloc (Obj.cells #[.int .i64 x, .int .i64 now, .int .i64 0] 100)) ?_ (Keeps.of_grown hg2 (fun j o e ho => ?_))) (keeps_set hbox2 (by decide))
    · exact fun k o _ ho => (Below.heap_alloc w1.drew _ _ (Array.getElem?_eq_some_iff.1 ho).1).trans ho
    · have hj : j < w1.heap.size := (hr1.row.lt j e).2
      rw [Below.heap_alloc w1.drew _ _ hj] at ho
      exact hr1.row_not_clk e ho
  have hbs : Below N w (w2.setCell ⟨B, 3, none⟩ (.slice (some ⟨g', 0, none⟩) (F.length + 1) cap')) :=
    (((hb1.drew.alloc (show N ≤ w1.drew.heap.size from hNs) (Obj.cells #[.int .i64 x, .int .i64 now, .int .i64 0] 100)).grown hg2 (by rw [World.size_alloc]; show N ≤ w1.heap.size + 1; omega) (fun q hq => (hr1.row.lt q hq).1)).setCell (p := ⟨B, 3, none⟩) hr1.hB _)
  have HST := Lib.hid hst
  have HKS := Lib.hid (hk1.trans hks)
  have HBS := Lib.hid hbs
  clear hst hks hbs hr1 hb1 hk1 hown2 hg2 hbox1 hbox2
  go_wp2_with fail
  go_region_law (rw [if_pos (by rfl)]; refine wp_append_run (s := .tmp 11) (x := .tmp 18) (t := 61) rfl (by rfl) (by rfl) hrun ?_)
  all_goals
    go_wp2_with fail
    exact bodyPost_end (results_none rfl _ _ _) rfl ⟨_, rfl, by rw [← HFF.out]; exact HST.out, HBS.out, HKS.out⟩
end Go.Proofs.Ytklkhlipecphkaa
