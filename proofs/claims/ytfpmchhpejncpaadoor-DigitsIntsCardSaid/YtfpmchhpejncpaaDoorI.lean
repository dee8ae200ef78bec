/- Digits: the part behind the point, in steps. -/
import Derived.Test.YtfpmchhpejncpaaDoorH
import Derived.DeepKeys
import Derived.Deep.Cut
import Derived.Laws.StructEq
namespace Go.Proofs.YtfpmchhpejncpaaDoor
open Go.RowKit
set_option maxRecDepth 100000
set_option linter.unusedVariables false

theorem alloc_at (w : World) (o : Obj) : (w.alloc o).heap[w.heap.size]? = some o := by
  show (w.heap.push o)[w.heap.size]? = some o
  simp
theorem its_bound {D : List Nat} (hd : Dg D) {i : Nat} (hi : i ≤ 32) : (its i D).1 < 4294967296 := by
  have h := its_lt (k := i) hd
  have : 2 ^ i ≤ 2 ^ 32 := Nat.pow_le_pow_right (by omega) hi
  have e : (2 : Nat) ^ 32 = 4294967296 := by decide
  omega
theorem part55 (D : List Nat) (w : World) (i d : Nat) (h : D[i]? = some d) : (part 5 (cellsD D) i).run Tryd.prog w = .ok (.int .u8 (d : Int)) w :=
  run_part_plain (P := Tryd.prog) w (by kernel_rfl) (by simp [cellsD, h])
theorem items55 (D E : List Nat) (w : World) : ∀ (is : List Nat), (∀ i ∈ is, i < D.length ∧ i < E.length) → (Op.eqItems 9999 5 1 (cellsD D) (cellsD E) is).run Tryd.prog w = .ok (is.all fun i => D[i]? == E[i]?) w
  | [], _ => by simp [Op.eqItems]
  | i :: is, h => by
    obtain ⟨h1, h2⟩ := h i (by simp)
    have ih := items55 D E w is (fun j hj => h j (by simp [hj]))
    have p1 := part55 D w i D[i] (List.getElem?_eq_getElem h1)
    have p2 := part55 E w i E[i] (List.getElem?_eq_getElem h2)
    have p3 : (Op.equalIn 9999 5 (.int .u8 (D[i] : Int)) (.int .u8 (E[i] : Int))).run Tryd.prog w = .ok ((D[i] : Int) == (E[i] : Int)) w := run_equalIn_int w 9998 5 .u8 .u8 _ _ (by kernel_rfl)
    simp only [Op.eqItems, Sem.run_bind, Nat.mul_one, p1, p2, p3, Result.andThen_ok, List.all_cons, List.getElem?_eq_getElem h1, List.getElem?_eq_getElem h2]
    by_cases e : D[i] = E[i]
    · have e1 : ((D[i] : Int) == (E[i] : Int)) = true := by simp [e]
      simp [ih, e]
    · have e1 : ((D[i] : Int) == (E[i] : Int)) = false := by simp; omega
      simp [e1, e]
theorem eq55 (D E : List Nat) (hD : D.length = 40) (hE : E.length = 40) (w : World) : (Op.equalIn 10000 55 (.agg (cellsD D)) (.agg (cellsD E))).run Tryd.prog w = .ok (decide (D = E)) w := by
  have hu : Tryd.prog.underlying 55 = some (.array 40 5) := by kernel_rfl
  obtain ⟨i, hi⟩ := Option.isSome_iff_exists.1 (show (Tryd.prog.info? 5).isSome = true by kernel_rfl)
  have hs : Tryd.prog.cellsOf 5 = 1 := by kernel_rfl
  rw [show (10000 : Nat) = 9999 + 1 from rfl, run_equalIn_array w 9999 _ _ hu hi, hs, items55 D E w _ (by intro j hj; have := List.mem_range.1 hj; omega)]
  congr 1
  rw [Bool.eq_iff_iff, List.all_eq_true, decide_eq_true_iff]
  constructor
  · intro h
    apply List.ext_getElem?
    intro j
    by_cases hj : j < 40
    · exact beq_iff_eq.1 (h j (List.mem_range.2 hj))
    · rw [List.getElem?_eq_none (by omega), List.getElem?_eq_none (by omega)]
  · rintro rfl j _; simp
theorem build55 (w : World) : (Instr.build 55 #[]).run Tryd.prog w = .ok (.agg (cellsD (List.replicate 40 0))) w := run_build w 55 _ _ (by kernel_rfl)
theorem wpList_build_run {P : Program} {ops : Array Oper} {rest : List Oper} {o : Oper} {a : Act} {w : World} {Q : Exit → Act → World → Prop} {t : TypeId} {v : Value}
    (hg : o.guard = none) (ho : o.op = .build t #[]) (hrun : (Instr.build t #[]).run P w = .ok v w) (h : wpList P ops Q rest (a.put o.dst v) w) : wpList P ops Q (o :: rest) a w :=
  wpList_plain hg fun K hK => by
    unfold Oper.wp execOp
    simp [ho, hrun, Result.andThen]
    exact hK _ _ h
theorem wpList_eql_run {P : Program} {ops : Array Oper} {rest : List Oper} {o : Oper} {a : Act} {w : World} {Q : Exit → Act → World → Prop} {t t' : TypeId} {x y : Operand} {xs ys : Array Value} {b : Bool}
    (hg : o.guard = none) (ho : o.op = .binOp .eql t x y t') (hx : a.eval x = .agg xs) (hy : a.eval y = .agg ys) (hm : P.eqGuardType P.depth t = false)
    (hrun : (Op.equalIn 10000 t (.agg xs) (.agg ys)).run P w = .ok b w) (h : wpList P ops Q rest (a.put o.dst (.bool b)) w) : wpList P ops Q (o :: rest) a w :=
  wpList_plain hg fun K hK => by
    unfold Oper.wp execOp
    simp [ho, hx, hy, run_eqGuard_agg w .eql t x y xs ys hm, run_eql_struct, hrun, Result.andThen]
    exact hK _ _ h
set_option maxHeartbeats 4000000 in
theorem steps_any (D : List Nat) (hD : D.length = 40) (hd : Dg D) (w : World) :
    Calls Tryd.prog 24 #[.agg (cellsD D)] w fun e w' => e = .returned (.tuple #[.int .i64 ((its 32 D).1 : Int), .int .i64 (cmpHalf (val (its 32 D).2) (10 ^ 40))]) ∧ Below w.heap.size w w' := by
  have HD := Lib.hid hD; have HG := Lib.hid hd
  have HAL := Lib.hid (alloc_at w (partObj D))
  clear hD hd
  go_enter Tryd.func24, Tryd.ntmps24
  go_wp2_with fail
  go_loopw [4, 6] (fun n i wr => ∃ k : Nat, k ≤ 32 ∧ i = .int .i64 (k : Int) ∧ n = .int .i64 ((its k D).1 : Int) ∧ wr.heap[w.heap.size]? = some (partObj (its k D).2) ∧ Below w.heap.size w wr) (fun _ i _ => 32 - (intOf i).toNat)
  case atStart => exact ⟨0, by omega, rfl, rfl, HAL.out, (Below.refl _ _).alloc (Nat.le_refl _) _⟩
  case round =>
    obtain ⟨k, hk, rfl, rfl, hbw, hbl⟩ := hrel
    have HT := Lib.hid (fun W (hW : W.heap[w.heap.size]? = some (partObj (its k D).2)) => twice_any w.heap.size (its k D).2 (by rw [its_len]; exact HD.out) (its_dg k HG.out) W hW)
    have HBW := Lib.hid hbw; have HBL := Lib.hid hbl
    have hn := its_bound HG.out hk
    clear hbw hbl
    by_cases hlt : k < 32
    · have d1 : decide ((k : Int) < 32) = true := decide_eq_true (by omega)
      obtain ⟨n, hn2⟩ : ∃ n, n = (its k D).1 := ⟨_, rfl⟩
      obtain ⟨c, hc⟩ : ∃ c, c = (dbl (its k D).2).2 := ⟨_, rfl⟩
      have hc1 : c ≤ 1 := by rw [hc]; exact dbl_carry (its_dg k HG.out)
      have HE1 : Hid ((its (k + 1) D).1 = 2 * n + c) := Lib.hid (by rw [hn2, hc]; rfl)
      have HE2 : Hid ((its (k + 1) D).2 = (dbl (its k D).2).1) := Lib.hid rfl
      rw [← hn2] at hn ⊢
      rw [← hc] at HT
      clear hn2 hc
      go_wp2_with fail
      refine (HT.out _ HBW.out).mono ?_
      rintro e w1 ⟨rfl, hb1, hg1, hs1⟩
      have HB1 := Lib.hid hb1
      have HBL1 := Lib.hid (HBL.out.grown hg1 HBL.out.size (fun q hq => by cases hq; exact Nat.le_refl _))
      clear hb1 hg1 hs1
      go_wp2_with fail
      go_roundw
      case rel => exact ⟨k + 1, by omega, by go_num, by rw [HE1.out]; go_num, by rw [HE2.out]; exact HB1.out, HBL1.out⟩
      case measure => simp [intOf]; omega
    · obtain rfl : k = 32 := by omega
      have d1 : decide (((32 : Nat) : Int) < 32) = false := by decide
      obtain ⟨E, hE⟩ : ∃ E, E = (its 32 D).2 := ⟨_, rfl⟩
      have hEl : E.length = 40 := by rw [hE, its_len]; exact HD.out
      have hEg : Dg E := by rw [hE]; exact its_dg 32 HG.out
      rw [← hE] at HT HBW
      have HE := Lib.hid hE
      clear hE
      have hv := dbl_val E
      have hvl := val_lt (dbl_dg E)
      have hc1 := dbl_carry hEg
      rw [dbl_len, hEl] at hvl
      rw [hEl] at hv
      obtain ⟨c, hc⟩ : ∃ c, c = (dbl E).2 := ⟨_, rfl⟩
      obtain ⟨F, hF⟩ : ∃ F, F = (dbl E).1 := ⟨_, rfl⟩
      have hFl : F.length = 40 := by rw [hF, dbl_len]; exact hEl
      rw [← hc] at hv hc1 HT
      rw [← hF] at hv hvl HT
      have HV := Lib.hid hv; have HVL := Lib.hid hvl; have HFL := Lib.hid hFl
      clear hc hF hv hvl hEl hEg
      go_wp2_with fail
      refine (HT.out _ HBW.out).mono ?_
      rintro e w1 ⟨rfl, hb1, hg1, hs1⟩
      have HB1 := Lib.hid hb1
      have HBL1 := Lib.hid (HBL.out.grown hg1 HBL.out.size (fun q hq => by cases hq; exact Nat.le_refl _))
      clear hb1 hg1 hs1
      have hcc : c = 0 ∨ c = 1 := by omega
      rcases hcc with rfl | rfl
      · have HC : Hid (cmpHalf (val E) (10 ^ 40) = -1) := Lib.hid (by
          have h1 := HV.out; have h2 := HVL.out
          obtain ⟨M, hM⟩ : ∃ M, M = 10 ^ 40 := ⟨_, rfl⟩
          rw [← hM] at h1 h2 ⊢
          unfold cmpHalf; rw [if_pos (by omega)])
        go_wp2_with fail
        go_ret2
        exact ⟨by rw [← HE.out, HC.out]; rfl, HBL1.out⟩
      · have HEQ := Lib.hid (eq55 F (List.replicate 40 0) HFL.out (by simp))
        go_upto_region 9 with fail
        refine wp_region_lit ?_
        refine wpList_load_row rfl 55 (.tmp 1) rfl w.heap.size rfl 55 (cellsD F) (0, 0) _ HB1.out (show Tryd.prog.underlying 55 = some (.array 40 5) by kernel_rfl) rfl (by rw [show (cellsD F).size = 40 by simp [cellsD, HFL.out]]; kernel_rfl) ?_
        refine wpList_build_run rfl rfl (build55 _) ?_
        refine wpList_eql_run rfl rfl rfl rfl (by kernel_rfl) (HEQ.out _) ?_
        go_frame
        obtain ⟨z, hz⟩ : ∃ z, z = decide (F = List.replicate 40 0) := ⟨_, rfl⟩
        rw [← hz]
        have HZ := Lib.hid hz
        obtain ⟨v1, hv1⟩ : ∃ v1, v1 = Value.agg (cellsD F) := ⟨_, rfl⟩
        obtain ⟨v2, hv2⟩ : ∃ v2, v2 = Value.agg (cellsD (List.replicate 40 0)) := ⟨_, rfl⟩
        rw [← hv1, ← hv2]
        clear hz hv1 hv2
        cases z with
        | true =>
          have HC : Hid (cmpHalf (val E) (10 ^ 40) = 0) := Lib.hid (by
            have h1 := HV.out; have h2 := HVL.out
            have h3 := HZ.out
            have h4 := val_zero (l := F)
            rw [HFL.out] at h4
            obtain ⟨M, hM⟩ : ∃ M, M = 10 ^ 40 := ⟨_, rfl⟩
            rw [← hM] at h1 h2 ⊢
            unfold cmpHalf
            have h5 := h4.2 (of_decide_eq_true h3.symm)
            rw [if_neg (by omega), if_pos (by omega)])
          go_wp2_with fail
          go_ret2
          exact ⟨by rw [← HE.out, HC.out]; rfl, HBL1.out⟩
        | false =>
          have HC : Hid (cmpHalf (val E) (10 ^ 40) = 1) := Lib.hid (by
            have h1 := HV.out; have h2 := HVL.out
            have h3 := HZ.out
            have h4 := val_zero (l := F)
            rw [HFL.out] at h4
            obtain ⟨M, hM⟩ : ∃ M, M = 10 ^ 40 := ⟨_, rfl⟩
            rw [← hM] at h1 h2 ⊢
            unfold cmpHalf
            have h5 : val F ≠ 0 := fun e => of_decide_eq_false h3.symm (h4.1 e)
            rw [if_neg (by omega), if_neg (by omega)])
          go_wp2_with fail
          go_ret2
          exact ⟨by rw [← HE.out, HC.out]; rfl, HBL1.out⟩
end Go.Proofs.YtfpmchhpejncpaaDoor
