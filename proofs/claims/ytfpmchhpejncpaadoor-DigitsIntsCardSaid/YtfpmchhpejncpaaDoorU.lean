/- Digits: the law of noughts: the walk. -/
import Derived.Test.YtfpmchhpejncpaaDoorT
namespace Go.Proofs.YtfpmchhpejncpaaDoor
open Go.RowKit
set_option maxRecDepth 100000
set_option linter.unusedVariables false
theorem more_succ (l B : List UInt8) (j : Nat) : moreL l B j ++ (⟨#[48]⟩ : ByteArray).data.toList = moreL l B (j + 1) := by
  unfold moreL
  rw [List.append_assoc]
  congr 1
  rw [List.replicate_succ']
set_option maxHeartbeats 16000000 in
theorem law5_any (s : ByteArray) (k : Int) (hs : s.size ≤ 140737488355328) (w : World) (ht : Tab w) : Calls Tryd.prog 5 #[.string s, .int .i64 k] w fun e w' => e = .returned (.bool true) ∧ Below w.heap.size w w' := by
  have HT := Lib.hid ht
  have HP := Lib.hid (fun W => PartsB_any s hs W)
  go_enter Tryd.func5, Tryd.ntmps5
  go_wp2_with fail
  refine (awake_any _ HT.out).mono ?_
  rintro e w1 ⟨rfl, hb1⟩
  have B1 := Lib.hid hb1
  clear hb1 ht
  go_wp2_with fail
  refine (HP.out _).mono ?_
  rcases hpl : partsL s.data.toList with _ | ⟨bl, AL, BL⟩
  · rw [hpl] at *
    rintro e w2 ⟨rfl, bl, ok, A, B, rfl, rfl⟩
    clear hpl HP
    go_wp2_with fail
    go_ret
    exact ⟨rfl, B1.out⟩
  · have HPL := Lib.hid hpl
    clear HP hpl
    rintro e w2 ⟨rfl, bl1, ok, A, B, rfl, rfl, rfl, hA, hB⟩
    have zA := lsize A; have zB := lsize B
    rw [hA] at zA; rw [hB] at zB
    clear hA
    by_cases k1 : k < 1
    · have d1 : decide (k < 1) = true := decide_eq_true k1
      go_wp2_with fail
      go_ret
      exact ⟨rfl, B1.out⟩
    · have d1 : decide (k < 1) = false := decide_eq_false k1
      by_cases k40 : 40 < k
      · have d2 : decide (40 < k) = true := decide_eq_true k40
        go_wp2_with fail
        go_ret
        exact ⟨rfl, B1.out⟩
      · have d2 : decide (40 < k) = false := decide_eq_false k40
        by_cases h300 : 300 < s.size
        · have d3 : decide (300 < (s.size : Int)) = true := decide_eq_true (by omega)
          go_wp2_with fail
          go_ret
          exact ⟨rfl, B1.out⟩
        · have d3 : decide (300 < (s.size : Int)) = false := decide_eq_false (by omega)
          have hw : IntKind.i64.wrap (40 - k) = 40 - k := by rw [IntKind.wrap_i64]; omega
          by_cases hB4 : 40 - k < (B.size : Int)
          · have d4 : decide (40 - k < (B.size : Int)) = true := decide_eq_true hB4
            go_wp2_with fail
            go_ret
            exact ⟨rfl, B1.out⟩
          · have d4 : decide (40 - k < (B.size : Int)) = false := decide_eq_false hB4
            by_cases hA2 : 20 < A.size
            · have d5 : decide (20 < (A.size : Int)) = true := decide_eq_true (by omega)
              go_wp2_with fail
              go_ret
              exact ⟨rfl, B1.out⟩
            · have d5 : decide (20 < (A.size : Int)) = false := decide_eq_false (by omega)
              obtain ⟨n, rfl⟩ : ∃ n : Nat, k = (n : Int) := ⟨k.toNat, by omega⟩
              have hn1 : 1 ≤ n := by omega
              have hn40 : n ≤ 40 := by omega
              have H1 := Lib.hid (fun W => Parse_any s (by omega) W)
              have HM := Lib.hid (parseT_more HPL.out hn1 (by omega) (by omega))
              have H0 := Lib.hid (parseT_some HPL.out (by omega))
              obtain ⟨x, hx⟩ : ∃ x, x = sat (if bl1 then - sumOf AL BL else sumOf AL BL) := ⟨_, rfl⟩
              obtain ⟨y, hy⟩ : ∃ y, y = satB (if bl1 then - sumOf AL BL else sumOf AL BL) := ⟨_, rfl⟩
              rw [← hx, ← hy] at H0
              rw [H0.out] at H1 HM
              clear hx hy k1 k40
              by_cases hB0 : B = ⟨#[]⟩
              · subst hB0
                have hBL : BL = [] := hB.symm
                have HBL := Lib.hid hBL
                clear hB hBL
                obtain ⟨M, hM⟩ : ∃ M : ByteArray, M = s ++ ⟨#[46]⟩ := ⟨_, rfl⟩
                have HME : Hid (moreL s.data.toList BL 0 = M.data.toList) := Lib.hid (by unfold moreL; simp [HBL.out, hM])
                have hMs : M.size ≤ 301 := by rw [hM, app_size, show (⟨#[46]⟩ : ByteArray).size = 1 from rfl]; omega
                go_upto_region 9 with fail
                skip
                rw [← hM]
                clear hM
                go_wp2_with fail
                go_loop [9, 58] (fun v i => ∃ (j : Nat) (S : ByteArray), j ≤ n ∧ i = .int .i64 (j : Int) ∧ v = .string S ∧ S.data.toList = moreL s.data.toList BL j ∧ S.size = M.size + j) (fun _ i => 40 - (intOf i).toNat)
                case atStart => exact ⟨0, M, Nat.zero_le _, rfl, rfl, HME.out.symm, rfl⟩
                case round =>
                  obtain ⟨j, S, hj, rfl, rfl, hS, hSz⟩ := hrel
                  have HS := Lib.hid hS; have HSZ := Lib.hid hSz
                  clear hS hSz
                  by_cases hlt : j < n
                  · have e1 : decide ((j : Int) < (n : Int)) = true := decide_eq_true (by omega)
                    have e2 : S.size ≤ 400 := by rw [HSZ.out]; omega
                    go_wp2_with fail
                    go_round
                    case rel =>
                      refine ⟨j + 1, _, hlt, by go_num, rfl, ?_, ?_⟩
                      · rw [app_list, HS.out, more_succ]
                      · rw [app_size, HSZ.out]; rfl
                    case measure => simp [intOf]; omega
                  · obtain rfl : j = n := by omega
                    have e1 : decide ((j : Int) < (j : Int)) = false := decide_eq_false (by omega)
                    have H2 := Lib.hid (fun W => Parse_any S (by rw [HSZ.out]; omega) W)
                    rw [HS.out, HM.out] at H2
                    go_wp2_with fail
                    refine (H1.out _).mono ?_
                    rintro e w3 ⟨rfl, hb3⟩
                    have B3 := Lib.hid (B1.out.trans (hb3.mono B1.out.size))
                    clear hb3
                    go_wp2_with fail
                    refine (H2.out _).mono ?_
                    rintro e w4 ⟨rfl, hb4⟩
                    have B4 := Lib.hid (B3.out.trans (hb4.mono B3.out.size))
                    clear hb4
                    go_wp2_with fail
                    go_ret
                    exact ⟨rfl, B4.out⟩
              · have hBL : BL ≠ [] := fun e => hB0 (bytes_inj (by rw [hB, e]))
                have d6 : B.toList.isEmpty = false := by
                  rw [ByteArray.toList_eq, hB]
                  cases BL with
                  | nil => exact absurd rfl hBL
                  | cons a r => rfl
                have HBL := Lib.hid hBL
                clear hB hBL hB0
                have HME : Hid (moreL s.data.toList BL 0 = s.data.toList) := Lib.hid (by unfold moreL; simp [HBL.out])
                have hMs : s.size ≤ 301 := by omega
                go_upto_region 9 with fail
                skip
                go_wp2_with fail
                go_loop [9, 58] (fun v i => ∃ (j : Nat) (S : ByteArray), j ≤ n ∧ i = .int .i64 (j : Int) ∧ v = .string S ∧ S.data.toList = moreL s.data.toList BL j ∧ S.size = s.size + j) (fun _ i => 40 - (intOf i).toNat)
                case atStart => exact ⟨0, s, Nat.zero_le _, rfl, rfl, HME.out.symm, rfl⟩
                case round =>
                  obtain ⟨j, S, hj, rfl, rfl, hS, hSz⟩ := hrel
                  have HS := Lib.hid hS; have HSZ := Lib.hid hSz
                  clear hS hSz
                  by_cases hlt : j < n
                  · have e1 : decide ((j : Int) < (n : Int)) = true := decide_eq_true (by omega)
                    have e2 : S.size ≤ 400 := by rw [HSZ.out]; omega
                    go_wp2_with fail
                    go_round
                    case rel =>
                      refine ⟨j + 1, _, hlt, by go_num, rfl, ?_, ?_⟩
                      · rw [app_list, HS.out, more_succ]
                      · rw [app_size, HSZ.out]; rfl
                    case measure => simp [intOf]; omega
                  · obtain rfl : j = n := by omega
                    have e1 : decide ((j : Int) < (j : Int)) = false := decide_eq_false (by omega)
                    have H2 := Lib.hid (fun W => Parse_any S (by rw [HSZ.out]; omega) W)
                    rw [HS.out, HM.out] at H2
                    go_wp2_with fail
                    refine (H1.out _).mono ?_
                    rintro e w3 ⟨rfl, hb3⟩
                    have B3 := Lib.hid (B1.out.trans (hb3.mono B1.out.size))
                    clear hb3
                    go_wp2_with fail
                    refine (H2.out _).mono ?_
                    rintro e w4 ⟨rfl, hb4⟩
                    have B4 := Lib.hid (B3.out.trans (hb4.mono B3.out.size))
                    clear hb4
                    go_wp2_with fail
                    go_ret
                    exact ⟨rfl, B4.out⟩
end Go.Proofs.YtfpmchhpejncpaaDoor
