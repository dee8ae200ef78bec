/- Digits: a text taken apart, by the document: texts of any size. -/
import Derived.Test.YtfpmchhpejncpaaDoorE
namespace Go.Proofs.YtfpmchhpejncpaaDoor
open Go.RowKit
set_option maxRecDepth 100000
set_option linter.unusedVariables false
set_option maxHeartbeats 8000000 in
theorem allB_any (s : ByteArray) (hs : s.size ≤ 140737488355328) (w : World) : Calls Tryd.prog 35 #[.string s] w fun e w' => e = .returned (.bool (allL s.data.toList)) ∧ w' = w := by
  go_enter Tryd.func35, Tryd.ntmps35
  go_wp2_with fail
  go_loop [3] (fun i => ∃ k : Nat, k ≤ s.size ∧ i = .int .i64 (k : Int) ∧ (s.data.toList.take k).all isDig = true) (fun i => s.size - (intOf i).toNat)
  case atStart => exact ⟨0, Nat.zero_le _, rfl, by simp⟩
  case round =>
    obtain ⟨k, hk, rfl, hall⟩ := hrel
    have HAL := Lib.hid hall
    clear hall
    by_cases hlt : k < s.size
    · have HTS := Lib.hid (take_snoc s k hlt)
      have HNO := Lib.hid (fun h => all_no (s := s) (k := k) hlt h)
      obtain ⟨x, hx⟩ : ∃ x, x = s[k] := ⟨_, rfl⟩
      by_cases h1 : (s[k].toNat : Int) < 48
      · have d1 : decide ((s[k].toNat : Int) < 48) = true := decide_eq_true h1
        have HF := Lib.hid (HNO.out (isDig_no.2 (by omega)))
        clear h1
        go_wp2_with fail
        go_ret
        exact ⟨by rw [HF.out]; rfl, rfl⟩
      · have d1 : decide ((s[k].toNat : Int) < 48) = false := decide_eq_false h1
        by_cases h2 : 57 < (s[k].toNat : Int)
        · have d2 : decide (57 < (s[k].toNat : Int)) = true := decide_eq_true h2
          have HF := Lib.hid (HNO.out (isDig_no.2 (by omega)))
          clear h1 h2
          go_wp2_with fail
          go_ret
          exact ⟨by rw [HF.out]; rfl, rfl⟩
        · have d2 : decide (57 < (s[k].toNat : Int)) = false := decide_eq_false h2
          have HY := Lib.hid ((isDig_iff (b := s[k])).2 (by omega))
          clear h1 h2
          go_wp2_with fail
          go_round
          case rel => exact ⟨k + 1, by omega, by go_num, by rw [HTS.out, List.all_append, HAL.out]; simp [HY.out]⟩
          case measure => simp [intOf]; omega
    · have hks : k = s.size := by omega
      have HF : Hid (allL s.data.toList = decide (0 < s.size)) := Lib.hid (all_yes (by rw [← hks]; exact HAL.out))
      clear hks
      go_wp2_with fail
      go_ret
      exact ⟨by rw [HF.out]; simp, rfl⟩

set_option maxHeartbeats 8000000 in
theorem PartsB_minus (s : ByteArray) (hs : s.size ≤ 140737488355328) (h0 : 0 < s.size) (h45 : s[0] = 45) (w : World) : Calls Tryd.prog 15 #[.string s] w (PartsPost (partsL s.data.toList) w) := by
  have hh : s.data.toList.head? = some 45 := by rw [List.head?_eq_getElem?, lget s 0 h0, h45]
  obtain ⟨Z, hZ⟩ : ∃ Z, Z = s.extract 1 s.size := ⟨_, rfl⟩
  have hZl : Z.data.toList = s.data.toList.tail := by rw [hZ, ext_list, List.take_of_length_le (by rw [List.length_drop, ← lsize]; omega), List.drop_one]
  have hZs : Z.size ≤ 140737488355328 := by rw [lsize, hZl, List.length_tail, ← lsize]; omega
  have hPL : partsL s.data.toList = restL true Z.data.toList := by unfold partsL; rw [if_pos hh, hZl]
  have HPL := Lib.hid hPL; have HZ := Lib.hid hZ
  have t0 : ((s[0].toNat : Int) == 45) = true := byte_eq 45 h45
  have h1 : 1 ≤ s.size := h0
  clear hh hZl hPL hZ h45
  go_enter Tryd.func15, Tryd.ntmps15
  go_wp2_with fail
  rw [← HZ.out]
  clear t0 h1
  go_loop [7] (fun i => ∃ k : Nat, k ≤ Z.size ∧ i = .int .i64 (k : Int) ∧ ∀ j b, j < k → Z.data.toList[j]? = some b → b ≠ 46) (fun i => Z.size - (intOf i).toNat)
  case atStart => exact ⟨0, Nat.zero_le _, rfl, fun j b hj => absurd hj (by omega)⟩
  case round =>
    obtain ⟨k, hk, rfl, hne⟩ := hrel
    have HNE := Lib.hid hne
    clear hne
    by_cases hgo : ∃ h : k < Z.size, Z[k] ≠ 46
    · obtain ⟨hlt, h46⟩ := hgo
      have t2 : ((Z[k].toNat : Int) == 46) = false := byte_ne 46 h46
      have t1 : ((Z[k].toNat : Int) != 46) = true := by simpa using t2
      have HL := Lib.hid (lget Z k hlt); have H46 := Lib.hid h46
      clear h46
      go_wp2_with fail
      go_round
      case rel =>
        refine ⟨k + 1, by omega, by go_num, fun j b hj e => ?_⟩
        rcases Nat.lt_or_ge j k with h | h
        · exact HNE.out j b h e
        · obtain rfl : j = k := by omega
          rw [HL.out] at e; cases e; exact H46.out
      case measure => simp [intOf]; omega
    · have hstop : k = Z.data.toList.length ∨ Z.data.toList[k]? = some 46 := by
        rcases Nat.lt_or_ge k Z.size with h | h
        · right
          rw [lget Z k h]
          have : Z[k] = 46 := Classical.not_not.1 (fun e => hgo ⟨h, e⟩)
          rw [this]
        · left; rw [← lsize]; omega
      have hah := ahead_take Z.data.toList k (by rw [← lsize]; exact hk) HNE.out hstop
      obtain ⟨A, hA⟩ : ∃ A, A = Z.extract 0 k := ⟨_, rfl⟩
      have hAl : A.data.toList = Z.data.toList.take k := by rw [hA, ext_list]; simp
      have hAs : A.size = k := by rw [lsize, hAl, List.length_take, ← lsize]; omega
      rw [← hAl] at hah
      have HAH := Lib.hid hah; have HA := Lib.hid hA; have HATK := Lib.hid hAl
      have HALL := Lib.hid (allB_any A (by omega) w)
      have HLEN : Hid ((aheadL Z.data.toList).length = k) := Lib.hid (by rw [hah, ← lsize]; exact hAs)
      have HAS := Lib.hid hAs
      obtain ⟨B, hB⟩ : ∃ B, B = Z.extract (k + 1) Z.size := ⟨_, rfl⟩
      have HBL : Hid (B.data.toList = Z.data.toList.drop (k + 1)) := Lib.hid (by rw [hB, ext_list, List.take_of_length_le]; rw [List.length_drop, ← lsize]; omega)
      have HBB := Lib.hid hB
      have HBS : Hid (B.size ≤ 140737488355328) := Lib.hid (by rw [lsize, HBL.out, List.length_drop, ← lsize]; omega)
      have hexit : (∃ h : k < Z.size, Z[k] = 46) ∨ k = Z.size := by
        rcases Nat.lt_or_ge k Z.size with h | h
        · exact .inl ⟨h, Classical.not_not.1 (fun e => hgo ⟨h, e⟩)⟩
        · exact .inr (by omega)
      clear hgo hstop hah hAl hAs hA hB
      rcases hexit with ⟨hlt, h46⟩ | hks
      · have t2 : ((Z[k].toNat : Int) == 46) = true := byte_eq 46 h46
        have t1 : ((Z[k].toNat : Int) != 46) = false := by simpa using t2
        have hnk : ¬ k = Z.size := by omega
        clear h46
        go_wp2_with fail
        rw [← HA.out]
        refine HALL.out.mono ?_
        rintro e w1 ⟨rfl, hw⟩
        obtain rfl : w = w1 := hw.symm
        clear hw
        cases hal : allL A.data.toList with
        | false =>
          have hho : headOk (aheadL Z.data.toList) = false := by rw [HAH.out, headOk, hal]; rfl
          have HF := Lib.hid (HPL.out.trans (restL_head hho))
          clear hho
          go_wp2_with fail
          rw [HF.out]
          exact bodyPost_ret (v := .tuple #[.bool false, .string ⟨#[]⟩, .string ⟨#[]⟩, .bool false]) (by simp [results, Tryd.results15, go_sem]) rfl (post_none)
        | true =>
          have hlen0 : 0 < A.size := by
            rcases Nat.eq_zero_or_pos A.size with h | h
            · have : A.data.toList = [] := List.eq_nil_of_length_eq_zero (by rw [← lsize]; exact h)
              rw [this] at hal; cases hal
            · exact h
          have hk1 : 1 ≤ k := by have := HAS.out; omega
          have HAL := Lib.hid hal
          by_cases hbad : 1 < A.size ∧ A[0] = 48
          · obtain ⟨hb1, hb2⟩ := hbad
            have hho : headOk (aheadL Z.data.toList) = false := by
              rw [HAH.out, headOk, HAL.out, List.head?_eq_getElem?, lget A 0 hlen0, hb2, ← lsize]
              have : (A.size == 1) = false := by simp; omega
              rw [this]; rfl
            have HF := Lib.hid (HPL.out.trans (restL_head hho))
            have u1 : ((A[0].toNat : Int) == 48) = true := byte_eq 48 hb2
            clear hho hb2 hal
            go_wp2_with fail
            rw [HF.out]
            exact bodyPost_ret (v := .tuple #[.bool false, .string ⟨#[]⟩, .string ⟨#[]⟩, .bool false]) (by simp [results, Tryd.results15, go_sem]) rfl (post_none)
          · have hho : headOk (aheadL Z.data.toList) = true := by
              rw [HAH.out, headOk, HAL.out, List.head?_eq_getElem?, lget A 0 hlen0, ← lsize]
              by_cases h1 : A.size = 1
              · rw [h1]; rfl
              · have : A[0] ≠ 48 := fun e => hbad ⟨by omega, e⟩
                simp [this]
            have HHO := Lib.hid hho
            have hch : A.size = 1 ∨ (1 < A.size ∧ A[0] ≠ 48) := by
              by_cases h1 : A.size = 1
              · exact .inl h1
              · exact .inr ⟨by omega, fun e => hbad ⟨by omega, e⟩⟩
            clear hho hbad hal
            have HALLB := Lib.hid (allB_any B HBS.out w)
            rcases hch with h1 | ⟨h1, h2⟩
            · have g1 : ¬ 1 < A.size := by omega
              clear h1
              go_wp2_with fail
              try rw [← HBB.out]
              refine HALLB.out.mono ?_
              rintro e w1 ⟨rfl, hw⟩
              obtain rfl : w = w1 := hw.symm
              clear hw
              cases hbl : allL B.data.toList with
              | false =>
                have HF := Lib.hid (HPL.out.trans (restL_none HHO.out (by rw [HLEN.out, ← lsize]; omega) (by rw [HLEN.out]; exact HBL.out.symm) hbl))
                clear hbl
                go_wp2_with fail
                rw [HF.out]
                exact bodyPost_ret (v := .tuple #[.bool true, .string A, .string B, .bool false]) (by simp [results, Tryd.results15, go_sem]) rfl (post_none)
              | true =>
                have HF := Lib.hid (HPL.out.trans (restL_some HHO.out (by rw [HLEN.out, ← lsize]; omega) HAH.out (by rw [HLEN.out]; exact HBL.out.symm) hbl))
                clear hbl
                go_wp2_with fail
                rw [HF.out]
                exact bodyPost_ret (v := .tuple #[.bool true, .string A, .string B, .bool true]) (by simp [results, Tryd.results15, go_sem]) rfl (post_some)
            · have u1 : ((A[0].toNat : Int) == 48) = false := byte_ne 48 h2
              clear h2
              go_wp2_with fail
              try rw [← HBB.out]
              refine HALLB.out.mono ?_
              rintro e w1 ⟨rfl, hw⟩
              obtain rfl : w = w1 := hw.symm
              clear hw
              cases hbl : allL B.data.toList with
              | false =>
                have HF := Lib.hid (HPL.out.trans (restL_none HHO.out (by rw [HLEN.out, ← lsize]; omega) (by rw [HLEN.out]; exact HBL.out.symm) hbl))
                clear hbl
                go_wp2_with fail
                rw [HF.out]
                exact bodyPost_ret (v := .tuple #[.bool true, .string A, .string B, .bool false]) (by simp [results, Tryd.results15, go_sem]) rfl (post_none)
              | true =>
                have HF := Lib.hid (HPL.out.trans (restL_some HHO.out (by rw [HLEN.out, ← lsize]; omega) HAH.out (by rw [HLEN.out]; exact HBL.out.symm) hbl))
                clear hbl
                go_wp2_with fail
                rw [HF.out]
                exact bodyPost_ret (v := .tuple #[.bool true, .string A, .string B, .bool true]) (by simp [results, Tryd.results15, go_sem]) rfl (post_some)

      · have hAll : A.data.toList = Z.data.toList := by rw [HATK.out, List.take_of_length_le]; rw [← lsize]; omega
        have hge : ¬ k < Z.size := by omega
        have hZA : Z = A := ByteArray.ext (Array.toList_inj.1 hAll.symm)
        subst hZA
        go_wp2_with fail

        refine HALL.out.mono ?_
        rintro e w1 ⟨rfl, hw⟩
        obtain rfl : w = w1 := hw.symm
        clear hw
        cases hal : allL Z.data.toList with
        | false =>
          have hho : headOk (aheadL Z.data.toList) = false := by rw [HAH.out, headOk, hal]; rfl
          have HF := Lib.hid (HPL.out.trans (restL_head hho))
          clear hho
          go_wp2_with fail
          rw [HF.out]
          exact bodyPost_ret (v := .tuple #[.bool false, .string ⟨#[]⟩, .string ⟨#[]⟩, .bool false]) (by simp [results, Tryd.results15, go_sem]) rfl (post_none)
        | true =>
          have hlen0 : 0 < Z.size := by
            rcases Nat.eq_zero_or_pos Z.size with h | h
            · have : Z.data.toList = [] := List.eq_nil_of_length_eq_zero (by rw [← lsize]; exact h)
              rw [this] at hal; cases hal
            · exact h
          have hk1 : 1 ≤ k := by have := HAS.out; omega
          have HAL := Lib.hid hal
          by_cases hbad : 1 < Z.size ∧ Z[0] = 48
          · obtain ⟨hb1, hb2⟩ := hbad
            have hho : headOk (aheadL Z.data.toList) = false := by
              rw [HAH.out, headOk, HAL.out, List.head?_eq_getElem?, lget Z 0 hlen0, hb2, ← lsize]
              have : (Z.size == 1) = false := by simp; omega
              rw [this]; rfl
            have HF := Lib.hid (HPL.out.trans (restL_head hho))
            have u1 : ((Z[0].toNat : Int) == 48) = true := byte_eq 48 hb2
            clear hho hb2 hal
            go_wp2_with fail
            rw [HF.out]
            exact bodyPost_ret (v := .tuple #[.bool false, .string ⟨#[]⟩, .string ⟨#[]⟩, .bool false]) (by simp [results, Tryd.results15, go_sem]) rfl (post_none)
          · have hho : headOk (aheadL Z.data.toList) = true := by
              rw [HAH.out, headOk, HAL.out, List.head?_eq_getElem?, lget Z 0 hlen0, ← lsize]
              by_cases h1 : Z.size = 1
              · rw [h1]; rfl
              · have : Z[0] ≠ 48 := fun e => hbad ⟨by omega, e⟩
                simp [this]
            have HHO := Lib.hid hho
            have hch : Z.size = 1 ∨ (1 < Z.size ∧ Z[0] ≠ 48) := by
              by_cases h1 : Z.size = 1
              · exact .inl h1
              · exact .inr ⟨by omega, fun e => hbad ⟨by omega, e⟩⟩
            clear hho hbad hal
            have HEQ : Hid (aheadL Z.data.toList = Z.data.toList) := Lib.hid HAH.out
            have HF := Lib.hid (HPL.out.trans (restL_whole HHO.out HEQ.out))
            clear hAll
            rcases hch with h1 | ⟨h1, h2⟩
            · have g1 : ¬ 1 < Z.size := by omega
              clear h1
              go_wp2_with fail
              rw [HF.out]
              exact bodyPost_ret (v := .tuple #[.bool true, .string Z, .string ⟨#[]⟩, .bool true]) (by simp [results, Tryd.results15, go_sem]) rfl (post_some (B := ⟨#[]⟩))
            · have u1 : ((Z[0].toNat : Int) == 48) = false := byte_ne 48 h2
              clear h2
              go_wp2_with fail
              rw [HF.out]
              exact bodyPost_ret (v := .tuple #[.bool true, .string Z, .string ⟨#[]⟩, .bool true]) (by simp [results, Tryd.results15, go_sem]) rfl (post_some (B := ⟨#[]⟩))

set_option maxHeartbeats 8000000 in
theorem PartsB_plain (Z : ByteArray) (hZs : Z.size ≤ 140737488355328) (h0 : 0 < Z.size) (h45 : Z[0] ≠ 45) (w : World) : Calls Tryd.prog 15 #[.string Z] w (PartsPost (partsL Z.data.toList) w) := by
  have hh : Z.data.toList.head? ≠ some 45 := by
    rw [List.head?_eq_getElem?, lget Z 0 h0]; simpa using h45
  have t0 : ((Z[0].toNat : Int) == 45) = false := byte_ne 45 h45
  have hPL : partsL Z.data.toList = restL false Z.data.toList := by unfold partsL; rw [if_neg hh]
  have HPL := Lib.hid hPL
  clear hh hPL
  go_enter Tryd.func15, Tryd.ntmps15
  go_wp2_with fail
  clear t0
  go_loop [7] (fun i => ∃ k : Nat, k ≤ Z.size ∧ i = .int .i64 (k : Int) ∧ ∀ j b, j < k → Z.data.toList[j]? = some b → b ≠ 46) (fun i => Z.size - (intOf i).toNat)
  case atStart => exact ⟨0, Nat.zero_le _, rfl, fun j b hj => absurd hj (by omega)⟩
  case round =>
    obtain ⟨k, hk, rfl, hne⟩ := hrel
    have HNE := Lib.hid hne
    clear hne
    by_cases hgo : ∃ h : k < Z.size, Z[k] ≠ 46
    · obtain ⟨hlt, h46⟩ := hgo
      have t2 : ((Z[k].toNat : Int) == 46) = false := byte_ne 46 h46
      have t1 : ((Z[k].toNat : Int) != 46) = true := by simpa using t2
      have HL := Lib.hid (lget Z k hlt); have H46 := Lib.hid h46
      clear h46
      go_wp2_with fail
      go_round
      case rel =>
        refine ⟨k + 1, by omega, by go_num, fun j b hj e => ?_⟩
        rcases Nat.lt_or_ge j k with h | h
        · exact HNE.out j b h e
        · obtain rfl : j = k := by omega
          rw [HL.out] at e; cases e; exact H46.out
      case measure => simp [intOf]; omega
    · have hstop : k = Z.data.toList.length ∨ Z.data.toList[k]? = some 46 := by
        rcases Nat.lt_or_ge k Z.size with h | h
        · right
          rw [lget Z k h]
          have : Z[k] = 46 := Classical.not_not.1 (fun e => hgo ⟨h, e⟩)
          rw [this]
        · left; rw [← lsize]; omega
      have hah := ahead_take Z.data.toList k (by rw [← lsize]; exact hk) HNE.out hstop
      obtain ⟨A, hA⟩ : ∃ A, A = Z.extract 0 k := ⟨_, rfl⟩
      have hAl : A.data.toList = Z.data.toList.take k := by rw [hA, ext_list]; simp
      have hAs : A.size = k := by rw [lsize, hAl, List.length_take, ← lsize]; omega
      rw [← hAl] at hah
      have HAH := Lib.hid hah; have HA := Lib.hid hA; have HATK := Lib.hid hAl
      have HALL := Lib.hid (allB_any A (by omega) w)
      have HLEN : Hid ((aheadL Z.data.toList).length = k) := Lib.hid (by rw [hah, ← lsize]; exact hAs)
      have HAS := Lib.hid hAs
      obtain ⟨B, hB⟩ : ∃ B, B = Z.extract (k + 1) Z.size := ⟨_, rfl⟩
      have HBL : Hid (B.data.toList = Z.data.toList.drop (k + 1)) := Lib.hid (by rw [hB, ext_list, List.take_of_length_le]; rw [List.length_drop, ← lsize]; omega)
      have HBB := Lib.hid hB
      have HBS : Hid (B.size ≤ 140737488355328) := Lib.hid (by rw [lsize, HBL.out, List.length_drop, ← lsize]; omega)
      have hexit : (∃ h : k < Z.size, Z[k] = 46) ∨ k = Z.size := by
        rcases Nat.lt_or_ge k Z.size with h | h
        · exact .inl ⟨h, Classical.not_not.1 (fun e => hgo ⟨h, e⟩)⟩
        · exact .inr (by omega)
      clear hgo hstop hah hAl hAs hA hB
      rcases hexit with ⟨hlt, h46⟩ | hks
      · have t2 : ((Z[k].toNat : Int) == 46) = true := byte_eq 46 h46
        have t1 : ((Z[k].toNat : Int) != 46) = false := by simpa using t2
        have hnk : ¬ k = Z.size := by omega
        clear h46
        go_wp2_with fail
        rw [← HA.out]
        refine HALL.out.mono ?_
        rintro e w1 ⟨rfl, hw⟩
        obtain rfl : w = w1 := hw.symm
        clear hw
        cases hal : allL A.data.toList with
        | false =>
          have hho : headOk (aheadL Z.data.toList) = false := by rw [HAH.out, headOk, hal]; rfl
          have HF := Lib.hid (HPL.out.trans (restL_head hho))
          clear hho
          go_wp2_with fail
          rw [HF.out]
          exact bodyPost_ret (v := .tuple #[.bool false, .string ⟨#[]⟩, .string ⟨#[]⟩, .bool false]) (by simp [results, Tryd.results15, go_sem]) rfl (post_none)
        | true =>
          have hlen0 : 0 < A.size := by
            rcases Nat.eq_zero_or_pos A.size with h | h
            · have : A.data.toList = [] := List.eq_nil_of_length_eq_zero (by rw [← lsize]; exact h)
              rw [this] at hal; cases hal
            · exact h
          have hk1 : 1 ≤ k := by have := HAS.out; omega
          have HAL := Lib.hid hal
          by_cases hbad : 1 < A.size ∧ A[0] = 48
          · obtain ⟨hb1, hb2⟩ := hbad
            have hho : headOk (aheadL Z.data.toList) = false := by
              rw [HAH.out, headOk, HAL.out, List.head?_eq_getElem?, lget A 0 hlen0, hb2, ← lsize]
              have : (A.size == 1) = false := by simp; omega
              rw [this]; rfl
            have HF := Lib.hid (HPL.out.trans (restL_head hho))
            have u1 : ((A[0].toNat : Int) == 48) = true := byte_eq 48 hb2
            clear hho hb2 hal
            go_wp2_with fail
            rw [HF.out]
            exact bodyPost_ret (v := .tuple #[.bool false, .string ⟨#[]⟩, .string ⟨#[]⟩, .bool false]) (by simp [results, Tryd.results15, go_sem]) rfl (post_none)
          · have hho : headOk (aheadL Z.data.toList) = true := by
              rw [HAH.out, headOk, HAL.out, List.head?_eq_getElem?, lget A 0 hlen0, ← lsize]
              by_cases h1 : A.size = 1
              · rw [h1]; rfl
              · have : A[0] ≠ 48 := fun e => hbad ⟨by omega, e⟩
                simp [this]
            have HHO := Lib.hid hho
            have hch : A.size = 1 ∨ (1 < A.size ∧ A[0] ≠ 48) := by
              by_cases h1 : A.size = 1
              · exact .inl h1
              · exact .inr ⟨by omega, fun e => hbad ⟨by omega, e⟩⟩
            clear hho hbad hal
            have HALLB := Lib.hid (allB_any B HBS.out w)
            rcases hch with h1 | ⟨h1, h2⟩
            · have g1 : ¬ 1 < A.size := by omega
              clear h1
              go_wp2_with fail
              try rw [← HBB.out]
              refine HALLB.out.mono ?_
              rintro e w1 ⟨rfl, hw⟩
              obtain rfl : w = w1 := hw.symm
              clear hw
              cases hbl : allL B.data.toList with
              | false =>
                have HF := Lib.hid (HPL.out.trans (restL_none HHO.out (by rw [HLEN.out, ← lsize]; omega) (by rw [HLEN.out]; exact HBL.out.symm) hbl))
                clear hbl
                go_wp2_with fail
                rw [HF.out]
                exact bodyPost_ret (v := .tuple #[.bool false, .string A, .string B, .bool false]) (by simp [results, Tryd.results15, go_sem]) rfl (post_none)
              | true =>
                have HF := Lib.hid (HPL.out.trans (restL_some HHO.out (by rw [HLEN.out, ← lsize]; omega) HAH.out (by rw [HLEN.out]; exact HBL.out.symm) hbl))
                clear hbl
                go_wp2_with fail
                rw [HF.out]
                exact bodyPost_ret (v := .tuple #[.bool false, .string A, .string B, .bool true]) (by simp [results, Tryd.results15, go_sem]) rfl (post_some)
            · have u1 : ((A[0].toNat : Int) == 48) = false := byte_ne 48 h2
              clear h2
              go_wp2_with fail
              try rw [← HBB.out]
              refine HALLB.out.mono ?_
              rintro e w1 ⟨rfl, hw⟩
              obtain rfl : w = w1 := hw.symm
              clear hw
              cases hbl : allL B.data.toList with
              | false =>
                have HF := Lib.hid (HPL.out.trans (restL_none HHO.out (by rw [HLEN.out, ← lsize]; omega) (by rw [HLEN.out]; exact HBL.out.symm) hbl))
                clear hbl
                go_wp2_with fail
                rw [HF.out]
                exact bodyPost_ret (v := .tuple #[.bool false, .string A, .string B, .bool false]) (by simp [results, Tryd.results15, go_sem]) rfl (post_none)
              | true =>
                have HF := Lib.hid (HPL.out.trans (restL_some HHO.out (by rw [HLEN.out, ← lsize]; omega) HAH.out (by rw [HLEN.out]; exact HBL.out.symm) hbl))
                clear hbl
                go_wp2_with fail
                rw [HF.out]
                exact bodyPost_ret (v := .tuple #[.bool false, .string A, .string B, .bool true]) (by simp [results, Tryd.results15, go_sem]) rfl (post_some)

      · have hAll : A.data.toList = Z.data.toList := by rw [HATK.out, List.take_of_length_le]; rw [← lsize]; omega
        have hge : ¬ k < Z.size := by omega
        have hZA : Z = A := ByteArray.ext (Array.toList_inj.1 hAll.symm)
        subst hZA
        go_wp2_with fail

        refine HALL.out.mono ?_
        rintro e w1 ⟨rfl, hw⟩
        obtain rfl : w = w1 := hw.symm
        clear hw
        cases hal : allL Z.data.toList with
        | false =>
          have hho : headOk (aheadL Z.data.toList) = false := by rw [HAH.out, headOk, hal]; rfl
          have HF := Lib.hid (HPL.out.trans (restL_head hho))
          clear hho
          go_wp2_with fail
          rw [HF.out]
          exact bodyPost_ret (v := .tuple #[.bool false, .string ⟨#[]⟩, .string ⟨#[]⟩, .bool false]) (by simp [results, Tryd.results15, go_sem]) rfl (post_none)
        | true =>
          have hlen0 : 0 < Z.size := by
            rcases Nat.eq_zero_or_pos Z.size with h | h
            · have : Z.data.toList = [] := List.eq_nil_of_length_eq_zero (by rw [← lsize]; exact h)
              rw [this] at hal; cases hal
            · exact h
          have hk1 : 1 ≤ k := by have := HAS.out; omega
          have HAL := Lib.hid hal
          by_cases hbad : 1 < Z.size ∧ Z[0] = 48
          · obtain ⟨hb1, hb2⟩ := hbad
            have hho : headOk (aheadL Z.data.toList) = false := by
              rw [HAH.out, headOk, HAL.out, List.head?_eq_getElem?, lget Z 0 hlen0, hb2, ← lsize]
              have : (Z.size == 1) = false := by simp; omega
              rw [this]; rfl
            have HF := Lib.hid (HPL.out.trans (restL_head hho))
            have u1 : ((Z[0].toNat : Int) == 48) = true := byte_eq 48 hb2
            clear hho hb2 hal
            go_wp2_with fail
            rw [HF.out]
            exact bodyPost_ret (v := .tuple #[.bool false, .string ⟨#[]⟩, .string ⟨#[]⟩, .bool false]) (by simp [results, Tryd.results15, go_sem]) rfl (post_none)
          · have hho : headOk (aheadL Z.data.toList) = true := by
              rw [HAH.out, headOk, HAL.out, List.head?_eq_getElem?, lget Z 0 hlen0, ← lsize]
              by_cases h1 : Z.size = 1
              · rw [h1]; rfl
              · have : Z[0] ≠ 48 := fun e => hbad ⟨by omega, e⟩
                simp [this]
            have HHO := Lib.hid hho
            have hch : Z.size = 1 ∨ (1 < Z.size ∧ Z[0] ≠ 48) := by
              by_cases h1 : Z.size = 1
              · exact .inl h1
              · exact .inr ⟨by omega, fun e => hbad ⟨by omega, e⟩⟩
            clear hho hbad hal
            have HEQ : Hid (aheadL Z.data.toList = Z.data.toList) := Lib.hid HAH.out
            have HF := Lib.hid (HPL.out.trans (restL_whole HHO.out HEQ.out))
            clear hAll
            rcases hch with h1 | ⟨h1, h2⟩
            · have g1 : ¬ 1 < Z.size := by omega
              clear h1
              go_wp2_with fail
              rw [HF.out]
              exact bodyPost_ret (v := .tuple #[.bool false, .string Z, .string ⟨#[]⟩, .bool true]) (by simp [results, Tryd.results15, go_sem]) rfl (post_some (B := ⟨#[]⟩))
            · have u1 : ((Z[0].toNat : Int) == 48) = false := byte_ne 48 h2
              clear h2
              go_wp2_with fail
              rw [HF.out]
              exact bodyPost_ret (v := .tuple #[.bool false, .string Z, .string ⟨#[]⟩, .bool true]) (by simp [results, Tryd.results15, go_sem]) rfl (post_some (B := ⟨#[]⟩))

set_option maxHeartbeats 8000000 in
theorem PartsB_any (s : ByteArray) (hs : s.size ≤ 140737488355328) (w : World) : Calls Tryd.prog 15 #[.string s] w (PartsPost (partsL s.data.toList) w) := by
  by_cases h0 : 0 < s.size
  · by_cases h45 : s[0] = 45
    · exact PartsB_minus s hs h0 h45 w
    · exact PartsB_plain s hs h0 h45 w
  · have hl : s.data.toList = [] := List.eq_nil_of_length_eq_zero (by rw [← lsize]; omega)
    have e : s = ⟨#[]⟩ := ByteArray.ext (Array.toList_inj.1 hl)
    subst e
    exact Parts_empty w
end Go.Proofs.YtfpmchhpejncpaaDoor
