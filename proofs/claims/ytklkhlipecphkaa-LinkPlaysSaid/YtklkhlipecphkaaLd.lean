/- Link: Take. -/
import Derived.Test.YtklkhlipecphkaaLc
namespace Go.Proofs.Ytklkhlipecphkaa
open Go.RowKit Go.Joins Go.Maps
set_option maxRecDepth 100000
set_option linter.unusedVariables false

def TakePost (N B M : Nat) (nodes most : Int) (f : Lit → Option Value) (n : Nat) (kl : Lit) (us : List Value) (i : Nat) (u : Value) (w : World) (e : Ending) (w' : World) : Prop :=
  e = .returned (.tuple #[u, .int .i64 0]) ∧ ∃ v' n', n' ≤ n + 1 ∧ Net N B M nodes most (lupd f kl v') n' w' ∧ w'.ownsRow N 34 1 (v'.getD (.slice none 0 0)) (us.eraseIdx i).length (us.eraseIdx i) ∧ (∀ k, (v'.getD (.slice none 0 0)).ownBlock = some k → w.heap.size ≤ k) ∧ Chg (fun k => k = M) w w'
theorem add_plain (g o j : Nat) : (⟨g, o, none⟩ : Addr).add j = ⟨g, o + j, none⟩ := by
  unfold Addr.add
  split <;> simp [*]
theorem slice_tail (g m cap i : Nat) (hi : i + 1 ≤ m) (W : World) : (Instr.slice 29 (.slice (some ⟨g, 0, none⟩) m cap) (some (.int .i64 ((i : Int) + 1))) none none).run Try.prog W = .ok (.slice (some (if cap = i + 1 then ⟨g, 0, none⟩ else ⟨g, i + 1, none⟩)) (m - (i + 1)) (cap - (i + 1))) W := by
  rw [run_slice_l (P := Try.prog) W 29 _ m cap (by kernel_rfl) .i64 ((i : Int) + 1) (by omega) (by omega)]
  have e : ((i : Int) + 1).toNat = i + 1 := by omega
  have z : (sizeOf (Try.prog.elem 29)).run Try.prog W = .ok 1 W := by kernel_rfl
  rw [z, e]
  simp only [Result.andThen, sliced, Nat.mul_one]
  split
  · rfl
  · rw [Option.map_some, add_plain, Nat.zero_add]
theorem wp_delete_run {P : Program} {o : Oper} {a : Act} {w w4 : World} {K : Act → World → Prop} {Q : Exit → Act → World → Prop} {s x : Operand} {t k : TypeId} {v y r : Value}
    (hop : o.op = Op.call { callee := Callee.builtin Builtin.delete, args := #[s, x], argTypes := #[t, k] }) (hs : a.eval s = v) (hx : a.eval x = y)
    (hrun : (Builtin.delete_ #[t, k] o.type #[v, y]).run P w = .ok r w4) (hK : K (a.put o.dst r) w4) : Oper.wp P o a w K Q := by
  unfold Oper.wp
  simp [execOp, hop, resolve, invoke, builtin, hs, hx, hrun, Result.andThen]
  exact hK
set_option maxHeartbeats 4000000 in
theorem Take_ok {N B M : Nat} {nodes most : Int} {f : Lit → Option Value} {n : Nat} {w : World} (h : Net N B M nodes most f n w) (hn : n < maxLen) {a b : Int} {kl : Lit} (hkey : keyOf Try.prog 92 (wv a b) = some kl)
    (h0 : 0 ≤ a) (h1 : a < nodes) (h2 : 0 ≤ b) (h3 : b < nodes) (hab : a ≠ b) {us : List Value}
    (hrow : w.ownsRow N 34 1 ((f kl).getD (.slice none 0 0)) us.length us) (hle : us.length ≤ 64) (one : ∀ x ∈ us, x.oneCell' = true) {i : Nat} {ou : Option Addr} {lu cu : Nat} (hi : us[i]? = some (.slice ou lu cu)) :
    Calls Try.prog 20 #[.pointer (some ⟨B, 0, none⟩), .int .i64 a, .int .i64 b, .int .i64 i] w (TakePost N B M nodes most f n kl us i (.slice ou lu cu) w) := by
  obtain ⟨i0, ti, hz0, hz1, hz2⟩ := info_parts info34
  have hilt : i < us.length := (List.getElem?_eq_some_iff.1 hi).1
  have H := Lib.hid h; have HR := Lib.hid hrow; have H3 := Lib.hid h3; have H1 := Lib.hid h1; have HN := Lib.hid hn; have HA := Lib.hid hab; have HI := Lib.hid hilt; have HU := Lib.hid hi
  clear h hrow h3 h1 hn hab hilt hi
  go_enter Try.func20, Try.ntmps20
  go_wp2_with fail
  have A0 := (Below.refl _ w).alloc (Nat.le_refl _) (Obj.cells #[.int .i64 a, .int .i64 b] 92)
  refine (named_ok (H.out.below A0) hkey h0 H1.out h2 H3.out HA.out (row_below HR.out A0) (i := (i : Int)) (by omega) (by have := HI.out; omega)).mono ?_
  rintro e w1 ⟨rfl, hb⟩
  have hw := Below.step hb
  have n1 := H.out.below hw
  have hT := Below.newObj hb
  obtain ⟨kc0, kc1⟩ := keycell hT
  have hl := rows_look (w := w1.drew) n1.drew.map hkey
  have row1 := row_below HR.out hw
  obtain ⟨v, hv⟩ : ∃ v, v = (f kl).getD (.slice none 0 0) := ⟨_, rfl⟩
  rw [← hv] at hl row1
  unfold wv at hl
  obtain ⟨m, hm⟩ : ∃ m, m = us.length := ⟨_, rfl⟩
  have hilt := HI.out
  rw [← hm] at row1 hilt hle
  obtain ⟨g, cap, rfl⟩ : ∃ g cap, v = .slice (some ⟨g, 0, none⟩) m cap := by
    rcases ownsRow_forms row1 with ⟨h, h0⟩ | ⟨g, cp, h⟩
    · omega
    · exact ⟨g, cp, h⟩
  have hmcap : m ≤ cap := by
    rcases row1.2 with ⟨e, -⟩ | ⟨g', cap', cur, e, _, _, hle, _⟩
    · simp at e
    · cases e; exact hle
  have cg : w1.cell? ⟨g, i, none⟩ = some (.slice ou lu cu) := by rw [row1.cellAt i (by omega)]; exact HU.out
  obtain ⟨T0, hT0⟩ : ∃ T0, T0 = w1.heap.size := ⟨_, rfl⟩
  obtain ⟨W2, hW2⟩ : ∃ W2, W2 = (w1.alloc (.cells #[] 34)).drew.drew := ⟨_, rfl⟩
  have s2 : W2.heap.size = T0 + 1 := by rw [hW2, hT0]; show (w1.alloc _).heap.size = _; rw [World.size_alloc]
  have b2 : Below T0 w1 W2 := by rw [hW2, hT0]; exact ((Below.refl _ w1).alloc (Nat.le_refl _) _).drew.drew
  have own0 : W2.ownsRow T0 34 1 (.slice (some ⟨T0, 0, none⟩) 0 0) 0 [] := by
    have := World.ownsRow_lit (base := T0) (e := 34) (size := 1) w1 #[] 0 (by omega) (by simp [maxLen]) rfl
    rw [← hT0] at this
    rw [hW2]
    exact this.drew.drew
  have hcell : ∀ (j : Nat) (x : Value), us[j]? = some x → w1.cell? ⟨g, j, none⟩ = some x := fun j x hx => by
    rw [row1.cellAt j (by have := (List.getElem?_eq_some_iff.1 hx).1; omega)]; exact hx
  have hglt : g < T0 := by
    have := (row1.lt g rfl).2
    omega
  have hlus : us.length = m := hm.symm
  obtain ⟨r1, W3, hr1, own1, hg1, -⟩ := run_append_own W2 T0 29 29 34 i0 (.slice none 0 0) 1 24 rfl ti hz0 hz1 hz2 rfl (by decide) _ 0 [] own0 ⟨g, 0, none⟩ i cap (us.take i) (by rw [List.length_take]; omega)
    (fun j x hx => by
      rw [add_plain, Nat.zero_add, b2.cell hglt]
      have hj : us[j]? = some x := by
        rw [List.getElem?_take] at hx
        split at hx
        · exact hx
        · cases hx
      exact hcell j x hj) (fun x hx => one x (List.mem_of_mem_take hx)) (by simp only [maxLen]; omega) (by omega) (by omega)
  rw [Nat.zero_add, List.nil_append] at own1
  have s3 := hg1.size
  have b3 : Below T0 w1 W3 := b2.grown hg1 (by omega) (fun k e => by simp only [Value.ownBlock, Option.some.injEq] at e; omega)
  have hst := slice_tail g m cap i hilt
  obtain ⟨a2, ha2⟩ : ∃ a2 : Addr, a2 = if cap = i + 1 then ⟨g, 0, none⟩ else ⟨g, i + 1, none⟩ := ⟨_, rfl⟩
  rw [← ha2] at hst
  obtain ⟨r2, W4, hr2, own2, hg2, -⟩ := run_append_own W3 T0 29 29 34 i0 (.slice none 0 0) 1 24 rfl ti hz0 hz1 hz2 rfl (by decide) _ i (us.take i) own1 a2 (m - (i + 1)) (cap - (i + 1)) (us.drop (i + 1)) (by rw [List.length_drop]; omega)
    (fun j x hx => by
      rw [List.getElem?_drop] at hx
      have hlt2 := (List.getElem?_eq_some_iff.1 hx).1
      rw [ha2, if_neg (by omega), add_plain, b3.cell hglt]
      exact hcell (i + 1 + j) x hx) (fun x hx => one x (List.mem_of_mem_drop hx)) (by simp only [maxLen]; omega) (by omega) (by omega)
  have hwr : IntKind.i64.wrap ((i : Int) + 1) = (i : Int) + 1 := by rw [IntKind.wrap_i64]; omega
  have c2 := n1.c2
  have HM := Lib.hid hm; have HW := Lib.hid hw; have HT := Lib.hid hT
  have db : decide ((i : Int) < 0) = false := decide_eq_false (by omega)
  have db2 : decide ((i : Int) < (m : Int)) = true := decide_eq_true (by omega)
  have HV := Lib.hid hv
  obtain ⟨q, hq⟩ : ∃ q, q = i + (m - (i + 1)) := ⟨_, rfl⟩
  have hq1 : q + 1 = m := by omega
  rw [← hq] at own2
  have her : us.take i ++ us.drop (i + 1) = us.eraseIdx i := (List.eraseIdx_eq_take_drop_succ us i).symm
  rw [her] at own2
  have hqe : (us.eraseIdx i).length = q := by have := own2.1; omega
  obtain ⟨o2, c3, hr⟩ : ∃ o2 c3, r2 = .slice o2 q c3 := by
    rcases ownsRow_forms own2 with ⟨h, h0⟩ | ⟨g, cp, h⟩
    · exact ⟨none, 0, by rw [h, h0]⟩
    · exact ⟨_, cp, h⟩
  have b4 : Below T0 w1 W4 := b3.grown hg2 (by omega) (fun k e => (own1.lt k e).1)
  have n4 : Net N B M nodes most f n W4 := n1.below (by rw [← hT0]; exact b4)
  have hwT : w.heap.size ≤ T0 := by rw [hT0]; exact hw.size
  have hkT : w.heap.size < T0 := by rw [hT0]; exact (Array.getElem?_eq_some_iff.1 hT).1
  have hT4 := (b4.block w.heap.size hkT).trans hT
  have k4 := ks_of (W := W4.drew) (B := B) (T0 := w.heap.size) (M := M) n4.box hT4
  have cw4 : Below w.heap.size w W4 := hw.trans (b4.mono hwT)
  obtain ⟨es4, cl4, hm4⟩ := rows_isMap n4.map
  have fin : (((q : Int) == 0) = true ∧ ∃ W5, (Builtin.delete_ #[86, 92] 0 #[.map (some M), .agg #[.int .i64 a, .int .i64 b]]).run Try.prog W4.drew = .ok (.tuple #[]) W5 ∧ TakePost N B M nodes most f n kl us i (.slice ou lu cu) w (.returned (.tuple #[.slice ou lu cu, .int .i64 0])) W5 ∧ (W5.cell? ⟨B, 2, none⟩ = some (.map (some M)) ∧ W5.cell? ⟨w.heap.size, 0, none⟩ = some (.int .i64 a) ∧ W5.cell? ⟨w.heap.size, 1, none⟩ = some (.int .i64 b)))
      ∨ (((q : Int) == 0) = false ∧ ∃ W5, (Instr.mapUpdate 86 (.map (some M)) (.agg #[.int .i64 a, .int .i64 b]) (.slice o2 q c3)).run Try.prog W4.drew = .ok () W5 ∧ TakePost N B M nodes most f n kl us i (.slice ou lu cu) w (.returned (.tuple #[.slice ou lu cu, .int .i64 0])) W5 ∧ (W5.cell? ⟨B, 2, none⟩ = some (.map (some M)) ∧ W5.cell? ⟨w.heap.size, 0, none⟩ = some (.int .i64 a) ∧ W5.cell? ⟨w.heap.size, 1, none⟩ = some (.int .i64 b))) := by
    by_cases hz : q = 0
    · refine .inl ⟨by simpa using hz, ?_⟩
      obtain ⟨W5, hrun, hm5, hg5⟩ := rows_drop n4.drew.map hkey 0
      unfold wv at hrun
      refine ⟨W5, hrun, ⟨rfl, none, n, by omega, n4.drew.put hg5 hm5, ?_, fun k e => ?_, ?_⟩, ks_of (n4.drew.put hg5 hm5).box ((hg5.block w.heap.size (Array.getElem?_eq_some_iff.1 hT4).1 (fun e => by cases e; rw [hm4] at hT4; cases hT4)).trans hT4)⟩
      · have : us.eraseIdx i = [] := List.eq_nil_of_length_eq_zero (by omega)
        rw [this]
        exact World.ownsRow_nil W5 N 34 1
      · simp [Value.ownBlock] at e
      · exact Chg.trans (S := fun _ => False) (T := fun k => k = M) (Chg.of_below cw4.drew) (Chg.of_grown hg5 (fun _ _ e => by cases e; rfl)) (fun _ _ h => h.elim) (fun _ _ h => h)
    · refine .inr ⟨by simpa using hz, ?_⟩
      obtain ⟨W5, hrun, hm5, hg5⟩ := rows_put n4.drew.map HN.out hkey (.slice o2 q c3)
      unfold wv at hrun
      rw [hr] at own2
      have own5 := own2.drew.kept hg5 (.inr (fun e => row_ne_map own2 hm4 e.symm))
      refine ⟨W5, hrun, ⟨rfl, some (.slice o2 q c3), n + 1, Nat.le_refl _, n4.drew.put hg5 hm5, ?_, fun k e => ?_, ?_⟩, ks_of (n4.drew.put hg5 hm5).box ((hg5.block w.heap.size (Array.getElem?_eq_some_iff.1 hT4).1 (fun e => by cases e; rw [hm4] at hT4; cases hT4)).trans hT4)⟩
      · rw [hqe]; exact row_mono own5 (by have := H.out.lt; have := H.out.hB; omega)
      · have := (own5.lt k e).1; omega
      · exact Chg.trans (S := fun _ => False) (T := fun k => k = M) (Chg.of_below cw4.drew) (Chg.of_grown hg5 (fun _ _ e => by cases e; rfl)) (fun _ _ h => h.elim) (fun _ _ h => h)
  have hic : i ≤ cap := by omega
  have HW2 := Lib.hid hW2; have HA2 := Lib.hid ha2; have HF := Lib.hid fin
  clear ha2 fin n4 b4 cw4 hm4 her hqe hq hq1 hwT hkT hT4
  subst hr
  subst hT0
  clear hv hb hm hw n1 hlus hW2 own0 own1 own2 b2 b3 hg1 hg2 one
  go_wp2_with fail
  go_region_held (fun W => W.cell? ⟨B, 2, none⟩ = some (.map (some M)) ∧ W.cell? ⟨w.heap.size, 0, none⟩ = some (.int .i64 a) ∧ W.cell? ⟨w.heap.size, 1, none⟩ = some (.int .i64 b)) (exact ⟨c2, kc0, kc1⟩) (fail)
  go_wp2_with fail
  go_region_held_law (fun W => True) (exact trivial) (first
    | (rw [if_pos (by rfl)]; refine wp_append_run (s := .tmp 35) (x := .tmp 38) (t := 29) rfl (by rfl) (by rfl) (HW2.out ▸ hr1) ?_)
    | (rw [if_pos (by rfl)]; refine wp_append_run (s := .tmp 39) (x := .tmp 43) (t := 29) rfl (by rfl) (by rfl) hr2 ?_))
  all_goals
    rcases HF.out with ⟨hz, W5, hrun, HP, k5⟩ | ⟨hz, W5, hrun, HP, k5⟩
    · have HP := Lib.hid HP
      go_wp2_with fail
      go_region_held_law (fun W => W.cell? ⟨B, 2, none⟩ = some (.map (some M)) ∧ W.cell? ⟨w.heap.size, 0, none⟩ = some (.int .i64 a) ∧ W.cell? ⟨w.heap.size, 1, none⟩ = some (.int .i64 b)) (first | exact k4 | exact k5) (first | (rw [if_pos (by rfl)]; refine wp_delete_run (s := .tmp 51) (x := .tmp 52) (t := 86) (k := 92) rfl (by rfl) (by rfl) hrun ?_))
      go_wp2_with fail
      go_ret2
      exact HP.out
    · have HP := Lib.hid HP
      go_wp2_with fail
      go_region_held (fun W => W.cell? ⟨B, 2, none⟩ = some (.map (some M)) ∧ W.cell? ⟨w.heap.size, 0, none⟩ = some (.int .i64 a) ∧ W.cell? ⟨w.heap.size, 1, none⟩ = some (.int .i64 b)) (first | exact k4 | exact k5) (fail)
      go_wp2_with fail
      go_ret2
      exact HP.out
end Go.Proofs.Ytklkhlipecphkaa
