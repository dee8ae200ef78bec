/- Digits: the laws of noughts and order: the walks. -/
import Derived.Test.YtfpmchhpejncpaaDoorS
namespace Go.Proofs.YtfpmchhpejncpaaDoor
open Go.RowKit
set_option maxRecDepth 100000
set_option linter.unusedVariables false
theorem app_list (a b : ByteArray) : (a ++ b).data.toList = a.data.toList ++ b.data.toList := by simp
theorem app_size (a b : ByteArray) : (a ++ b).size = a.size + b.size := by rw [lsize, app_list, List.length_append, ← lsize, ← lsize]
theorem bytes_inj {a b : ByteArray} (h : a.data.toList = b.data.toList) : a = b := by
  cases a with
  | mk d => cases b with
    | mk e => exact congrArg ByteArray.mk (Array.toList_inj.1 h)
theorem joinL_len (below : Bool) (A B : List UInt8) : (joinL below A B).length = (if below = true then 1 else 0) + A.length + (if B = [] then 0 else B.length + 1) := by
  unfold joinL joinR
  cases below <;> by_cases h : B = [] <;> simp [h] <;> omega
set_option maxHeartbeats 16000000 in
theorem law7_any (s t : ByteArray) (hs : s.size ≤ 140737488355328) (ht0 : t.size ≤ 140737488355328) (w : World) (ht : Tab w) : Calls Tryd.prog 7 #[.string s, .string t] w fun e w' => e = .returned (.bool true) ∧ Below w.heap.size w w' := by
  have HT := Lib.hid ht
  have HP := Lib.hid (fun W => PartsB_any s hs W)
  have HQ := Lib.hid (fun W => PartsB_any t ht0 W)
  go_enter Tryd.func7, Tryd.ntmps7
  go_wp2_with fail
  refine (awake_any _ HT.out).mono ?_
  rintro e w1 ⟨rfl, hb1⟩
  have B1 := Lib.hid hb1
  clear hb1 ht
  go_wp2_with fail
  refine (HP.out _).mono ?_
  rcases hpl : partsL s.data.toList with _ | ⟨bl, AL, BL⟩
  · rw [hpl] at *
    rintro e w2 ⟨rfl, bl, ok, A, B, rfl, rfl⟩
    clear hpl HP
    go_wp2_with fail
    refine (HQ.out _).mono ?_
    rintro e w2 ⟨rfl, bl2, ok2, A2, B2, rfl, -⟩
    go_wp2_with fail
    go_ret
    exact ⟨rfl, B1.out⟩
  · have HPL := Lib.hid hpl
    clear HP hpl
    rintro e w2 ⟨rfl, bl1, ok, A, B, rfl, rfl, rfl, hA, hB⟩
    go_wp2_with fail
    refine (HQ.out _).mono ?_
    rcases hpl2 : partsL t.data.toList with _ | ⟨bl2, AL2, BL2⟩
    · rintro e w2 ⟨rfl, bl2, ok2, A2, B2, rfl, rfl⟩
      clear HQ hA hB hpl2
      go_wp2_with fail
      go_ret
      exact ⟨rfl, B1.out⟩
    · have HPL2 := Lib.hid hpl2
      clear HQ hpl2
      rintro e w2 ⟨rfl, bl2, ok, A2, B2, rfl, rfl, rfl, hA2, hB2⟩
      cases bl1 with
      | true =>
        clear hA hB hA2 hB2
        go_wp2_with fail
        go_ret
        exact ⟨rfl, B1.out⟩
      | false =>
        cases bl2 with
        | true =>
          clear hA hB hA2 hB2
          go_wp2_with fail
          go_ret
          exact ⟨rfl, B1.out⟩
        | false =>
          have zA := lsize A; have zB := lsize B; have zA2 := lsize A2; have zB2 := lsize B2
          rw [hA] at zA; rw [hB] at zB; rw [hA2] at zA2; rw [hB2] at zB2
          clear hA hB hA2 hB2
          by_cases hEA : A.size = A2.size
          · have d1 : ((A.size : Int) == (A2.size : Int)) = true := by rw [hEA]; simp
            by_cases hEB : B.size = B2.size
            · have d2 : ((B.size : Int) == (B2.size : Int)) = true := by rw [hEB]; simp
              by_cases h300 : 300 < s.size
              · have d3 : decide (300 < (s.size : Int)) = true := decide_eq_true (by omega)
                go_wp2_with fail
                go_ret
                exact ⟨rfl, B1.out⟩
              · have d3 : decide (300 < (s.size : Int)) = false := decide_eq_false (by omega)
                have hst : t.size = s.size := by
                  have e1 := (partsL_inv HPL.out).1
                  have e2 := (partsL_inv HPL2.out).1
                  rw [lsize, lsize, e1, e2, joinL_len, joinL_len]
                  by_cases hn : BL = []
                  · have hn2 : BL2 = [] := List.length_eq_zero_iff.1 (by rw [← zB2, ← hEB, zB, hn]; rfl)
                    rw [if_pos hn, if_pos hn2]; omega
                  · have hn2 : BL2 ≠ [] := fun e => hn (List.length_eq_zero_iff.1 (by rw [← zB, hEB, zB2, e]; rfl))
                    rw [if_neg hn, if_neg hn2]; omega
                have H1 := Lib.hid (fun W => Parse_any s (by omega) W)
                have H2 := Lib.hid (fun W => Parse_any t (by omega) W)
                by_cases hl : 20 < AL.length ∨ 40 < BL.length
                · rw [parseT_long HPL.out hl] at H1
                  rw [parseT_long HPL2.out (by omega)] at H2
                  clear hl
                  go_wp2_with fail
                  refine (H1.out _).mono ?_
                  rintro e w3 ⟨rfl, hb3⟩
                  have B3 := Lib.hid (B1.out.trans (hb3.mono B1.out.size))
                  clear hb3
                  go_wp2_with fail
                  refine (H2.out _).mono ?_
                  rintro e w4 ⟨rfl, hb4⟩
                  have B4 := Lib.hid (B3.out.trans (hb4.mono B3.out.size))
                  clear hb4
                  go_wp2_with fail
                  go_ret
                  exact ⟨rfl, B4.out⟩
                · rw [parseT_some HPL.out hl] at H1
                  rw [parseT_some HPL2.out (by omega)] at H2
                  simp only [Bool.false_eq_true, if_false] at H1 H2
                  obtain ⟨o1, o2, o3⟩ := order_law HPL.out HPL2.out (by omega) (by omega) (by omega)
                  obtain ⟨x, hx⟩ : ∃ x, x = sat (sumOf AL BL) := ⟨_, rfl⟩
                  obtain ⟨y, hy⟩ : ∃ y, y = sat (sumOf AL2 BL2) := ⟨_, rfl⟩
                  have o4 : s = t → x = y := fun e => by
                    have := o3 (by rw [e])
                    rw [hx, hy, this.1, this.2]
                  rw [← hx] at H1
                  rw [← hy] at H2
                  rw [← hx, ← hy] at o1 o2
                  rw [← ByteArray.toList_eq, ← ByteArray.toList_eq] at o1 o2
                  clear hl hx hy o3 hst
                  by_cases hq : s = t
                  · cases o4 hq
                    cases hq
                    clear o1 o2 o4
                    go_wp2_with fail
                    refine (H1.out _).mono ?_
                    rintro e w3 ⟨rfl, hb3⟩
                    have B3 := Lib.hid (B1.out.trans (hb3.mono B1.out.size))
                    clear hb3
                    go_wp2_with fail
                    refine (H2.out _).mono ?_
                    rintro e w4 ⟨rfl, hb4⟩
                    have B4 := Lib.hid (B3.out.trans (hb4.mono B3.out.size))
                    clear hb4
                    go_wp2_with fail
                    go_ret
                    exact ⟨rfl, B4.out⟩
                  · have hql : s.toList ≠ t.toList := fun e => hq (bytes_inj (by rw [← ByteArray.toList_eq, ← ByteArray.toList_eq]; exact e))
                    have d4 : (s.toList == t.toList) = false := by simpa using hql
                    cases hless : Op.bytesLess s.toList t.toList with
                    | true =>
                      have d5 : decide (x ≤ y) = true := decide_eq_true (o1 hless)
                      clear o1 o2 o4
                      go_wp2_with fail
                      refine (H1.out _).mono ?_
                      rintro e w3 ⟨rfl, hb3⟩
                      have B3 := Lib.hid (B1.out.trans (hb3.mono B1.out.size))
                      clear hb3
                      go_wp2_with fail
                      refine (H2.out _).mono ?_
                      rintro e w4 ⟨rfl, hb4⟩
                      have B4 := Lib.hid (B3.out.trans (hb4.mono B3.out.size))
                      clear hb4
                      go_wp2_with fail
                      go_ret
                      exact ⟨rfl, B4.out⟩
                    | false =>
                      have d5 : decide (y ≤ x) = true := decide_eq_true (o2 hless hql)
                      clear o1 o2 o4
                      go_wp2_with fail
                      refine (H1.out _).mono ?_
                      rintro e w3 ⟨rfl, hb3⟩
                      have B3 := Lib.hid (B1.out.trans (hb3.mono B1.out.size))
                      clear hb3
                      go_wp2_with fail
                      refine (H2.out _).mono ?_
                      rintro e w4 ⟨rfl, hb4⟩
                      have B4 := Lib.hid (B3.out.trans (hb4.mono B3.out.size))
                      clear hb4
                      go_wp2_with fail
                      go_ret
                      exact ⟨rfl, B4.out⟩
            · have d2 : ((B.size : Int) == (B2.size : Int)) = false := by simp; omega
              go_wp2_with fail
              go_ret
              exact ⟨rfl, B1.out⟩
          · have d1 : ((A.size : Int) == (A2.size : Int)) = false := by simp; omega
            go_wp2_with fail
            go_ret
            exact ⟨rfl, B1.out⟩
end Go.Proofs.YtfpmchhpejncpaaDoor
