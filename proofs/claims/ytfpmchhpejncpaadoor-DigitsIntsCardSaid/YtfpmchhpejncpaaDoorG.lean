/- Digits: a text taken apart, by the program. -/
import Derived.Test.YtfpmchhpejncpaaDoorF
import Derived.Laws.RangeString
import Derived.Laws.RangeAny
import Derived.Scope
import Derived.Deep.LoopGhost
namespace Go.Proofs.YtfpmchhpejncpaaDoor
open Go.RowKit
set_option maxRecDepth 100000
set_option linter.unusedVariables false
set_option maxHeartbeats 16000000 in
theorem apart_minus (s : ByteArray) (hs : s.size ≤ 100000) (hs0 : 0 < s.size) (h45 : s[0] = 45) (Z : ByteArray) (hZ : Z = s.extract 1 s.size) (h0 : 0 < Z.size) (w : World) :
    Calls Tryd.prog 23 #[.string s] w (ApartPost (restL true Z.data.toList) w) := by
  have hZs : Z.size ≤ 100000 := by rw [hZ, lsize, ext_list, List.length_take]; omega
  have t0 : ((s[0].toNat : Int) == 45) = true := byte_eq 45 h45
  have h1 : 1 ≤ s.size := hs0
  have HZ1 : Hid (Z.size = s.size - 1) := Lib.hid (by rw [hZ]; simp [ByteArray.size_extract])
  have HZ := Lib.hid hZ
  clear h45 hZ
  have HDIG := Lib.hid digit_any
  have hsz := Lib.hid (lsize Z)
  go_enter Tryd.func23, Tryd.ntmps23
  go_wp2_with fail
  go_step3
  go_wp2_with fail
  go_step3
  go_wp2_with fail
  rw [← HZ.out]
  clear t0 h1
  obtain ⟨W0, hW0⟩ : ∃ W0, W0 = (w.alloc (.cells #[.bool false, .string ⟨#[]⟩, .string ⟨#[]⟩] 51)).alloc (.cells #[.bool true, .string ⟨#[]⟩, .string ⟨#[]⟩] 51) := ⟨_, rfl⟩
  have hs0 : W0.heap.size = w.heap.size + 1 + 1 := by rw [hW0, World.size_alloc, World.size_alloc]
  have HITER : Hid (∀ q, W0.iter Z q = ((w.alloc (.cells #[.bool false, .string ⟨#[]⟩, .string ⟨#[]⟩] 51)).alloc (.cells #[.bool true, .string ⟨#[]⟩, .string ⟨#[]⟩] 51)).alloc (.stringIter Z q)) := Lib.hid (fun q => by rw [hW0]; rfl)
  rw [← hW0]
  have HS0 := Lib.hid hs0
  clear hW0 hs0
  go_loopw [5, 6, 7, 8] (fun q e _ _ wr => ∃ pos p : Nat, wr = W0.iter Z pos ∧ q = .int .i64 (p : Int) ∧ e = .bool true ∧ Seen Z.data.toList pos p) (fun _ _ _ _ wr => Z.size - wr.iterPos W0.heap.size)
  case atStart => exact ⟨0, Z.size, rfl, by rw [HZ1.out], rfl, by rw [hsz.out]; exact Seen.start _⟩
  case round =>
    obtain ⟨pos, p, rfl, rfl, rfl, hseen⟩ := hrel
    have HSE := Lib.hid hseen
    have hple := hseen.ple
    have hpos := hseen.le
    rw [← hsz.out] at hple hpos
    clear hseen
    by_cases hlt : pos < Z.size
    · have HL := Lib.hid (lget Z pos hlt)
      by_cases ha : Z[pos].toNat < 128
      · obtain ⟨c, hc⟩ : ∃ c, c = Z[pos] := ⟨_, rfl⟩
        rw [← hc] at HL ha
        have hnx := next_ascii W0 _ HS0.out Z pos hlt c hc ha
        have HNX2 : Hid (∀ ty, (Instr.next (.pointer (some ⟨w.heap.size + 1 + 1, 0, none⟩)) true ty).run Tryd.prog (W0.iter Z pos) = .ok (.tuple #[.bool true, .int .i64 (pos : Int), .int .i32 (c.toNat : Int)]) (((w.alloc (.cells #[.bool false, .string ⟨#[]⟩, .string ⟨#[]⟩] 51)).alloc (.cells #[.bool true, .string ⟨#[]⟩, .string ⟨#[]⟩] 51)).alloc (.stringIter Z (pos + 1)))) := Lib.hid (fun ty => by rw [← HITER.out]; exact hnx ty)
        clear hc
        cases hd : isDig c with
        | true =>
          have HN := Lib.hid (HSE.out.digit HL.out hd)
          have HD := Lib.hid hd
          clear hd
          go_wp2_with fail
          refine (HDIG.out _ _).mono ?_
          rintro e w1 ⟨rfl, rfl⟩
          rw [isDig_int, HD.out]
          clear hnx
          go_wp2_with fail
          go_roundw
          case rel => exact ⟨pos + 1, p, rfl, rfl, rfl, HN.out⟩
          case measure => simp; omega
        | false =>
          have HD := Lib.hid hd
          clear hd
          by_cases h46 : c = 46 ∧ p = Z.size
          · obtain ⟨h4, hpz⟩ := h46
            have HN := Lib.hid (Seen.point (by rw [← hsz.out, ← hpz]; exact HSE.out) (HL.out.trans (by rw [h4])))
            have v1 : ((c.toNat : Int) == 46) = true := byte_eq 46 h4
            clear h4
            subst hpz
            go_wp2_with fail
            refine (HDIG.out _ _).mono ?_
            rintro e w1 ⟨rfl, rfl⟩
            rw [isDig_int, HD.out]
            clear hnx
            go_wp2_with fail
            go_roundw
            case rel => exact ⟨pos + 1, pos, rfl, rfl, rfl, HN.out⟩
            case measure => simp; omega
          · have HOK := Lib.hid (HSE.out.bad HL.out HD.out (by rcases Classical.em (c = 46) with h | h; (right; rw [← hsz.out]; exact fun e => h46 ⟨h, e⟩); exact .inl h) true)
            have hnx2 := HNX2.out
            have hch : c ≠ 46 ∨ (c = 46 ∧ p ≠ Z.size) := by
              by_cases h : c = 46
              · exact .inr ⟨h, fun e => h46 ⟨h, e⟩⟩
              · exact .inl h
            clear hnx h46
            rcases hch with h | ⟨h4, h⟩
            · have v1 : ((c.toNat : Int) == 46) = false := byte_ne 46 h
              clear h
              go_wp2_with fail
              refine (HDIG.out _ _).mono ?_
              rintro e w1 ⟨rfl, hw1⟩
              subst hw1
              rw [isDig_int, HD.out]
              clear hnx2
              by_cases hp0 : p = 0
              · subst hp0
                obtain ⟨B, hB⟩ : ∃ B, Z.extract 1 Z.size = B := ⟨_, rfl⟩
                clear HSE
                go_wp2_with fail
                try rw [Exit.noGoto_ret]
                exact bodyPost_ret (v := .tuple #[.agg #[.bool true, .string ByteArray.empty, .string B], .bool false]) (by simp [results, Tryd.results23, go_sem]) rfl (by rw [HOK.out]; exact ⟨below_three w _ _ _, true, false, ByteArray.empty, B, rfl, rfl⟩)
              · by_cases hpz : p = Z.size
                · subst hpz
                  have hA1 : Z.toList.isEmpty = false := bempty h0
                  have hA2 : ¬ Z.toList = [] := bnil h0
                  by_cases hbad : 1 < Z.size ∧ Z[0] = 48
                  · obtain ⟨hb1, hb2⟩ := hbad
                    have u1 : ((Z[0].toNat : Int) == 48) = true := byte_eq 48 hb2
                    have u1n : ((Z[0].toNat : Int) != 48) = false := by rw [bne, u1]; rfl
                    have u2 : ((Z.size : Int) == 1) = false := by simp; omega
                    clear HSE hb2
                    go_wp2_with fail
                    try rw [Exit.noGoto_ret]
                    exact bodyPost_ret (v := .tuple #[.agg #[.bool true, .string Z, .string ⟨#[]⟩], .bool false]) (by simp [results, Tryd.results23, go_sem]) rfl (by rw [HOK.out]; exact ⟨below_three w _ _ _, true, false, Z, ⟨#[]⟩, rfl, rfl⟩)
                  · have HR := Lib.hid (right_whole h0 hbad)
                    have HAL : Hid (Z.data.toList = Z.data.toList) := Lib.hid rfl
                    have HBL : Hid ((ByteArray.mk #[]).data.toList = []) := Lib.hid rfl
                    have hch : Z.size = 1 ∨ (1 < Z.size ∧ Z[0] ≠ 48) := by
                      by_cases h1 : Z.size = 1
                      · exact .inl h1
                      · exact .inr ⟨by omega, fun e => hbad ⟨by omega, e⟩⟩
                    clear HSE hbad
                    rcases hch with h1 | ⟨h1, h2⟩
                    · have u2 : ((Z.size : Int) == 1) = true := by rw [h1]; rfl
                      by_cases h48 : Z[0] = 48
                      · have u1 : ((Z[0].toNat : Int) == 48) = true := byte_eq 48 h48
                        have u1n : ((Z[0].toNat : Int) != 48) = false := by rw [bne, u1]; rfl
                        clear h48 h1
                        go_wp2_with fail
                        try rw [Exit.noGoto_ret]
                        exact bodyPost_ret (v := .tuple #[.agg #[.bool true, .string Z, .string ⟨#[]⟩], .bool false]) (by simp [results, Tryd.results23, go_sem]) rfl (by rw [HOK.out]; exact ⟨below_three w _ _ _, true, false, Z, ⟨#[]⟩, rfl, rfl⟩)
                      · have u1 : ((Z[0].toNat : Int) == 48) = false := byte_ne 48 h48
                        have u1n : ((Z[0].toNat : Int) != 48) = true := by rw [bne, u1]; rfl
                        clear h48 h1
                        go_wp2_with fail
                        try rw [Exit.noGoto_ret]
                        exact bodyPost_ret (v := .tuple #[.agg #[.bool true, .string Z, .string ⟨#[]⟩], .bool false]) (by simp [results, Tryd.results23, go_sem]) rfl (by rw [HOK.out]; exact ⟨below_three w _ _ _, true, false, Z, ⟨#[]⟩, rfl, rfl⟩)
                    · have u1 : ((Z[0].toNat : Int) == 48) = false := byte_ne 48 h2
                      have u1n : ((Z[0].toNat : Int) != 48) = true := by rw [bne, u1]; rfl
                      clear h2
                      go_wp2_with fail
                      try rw [Exit.noGoto_ret]
                      exact bodyPost_ret (v := .tuple #[.agg #[.bool true, .string Z, .string ⟨#[]⟩], .bool false]) (by simp [results, Tryd.results23, go_sem]) rfl (by rw [HOK.out]; exact ⟨below_three w _ _ _, true, false, Z, ⟨#[]⟩, rfl, rfl⟩)
                · have hplt : p < Z.size := by omega
                  have hne : ((p : Int) == (Z.size : Int)) = false := by simp; omega
                  have hne2 : ¬ p = Z.size := hpz
                  have hA00 := ext_zero Z p h0 (by omega) hple
                  obtain ⟨A, hA⟩ : ∃ A, Z.extract 0 p = A := ⟨_, rfl⟩
                  have hAs : A.size = p := by rw [← hA, lsize, ext_list, List.length_take, List.length_drop, ← lsize]; omega
                  have hA0 : 0 < A.size := by omega
                  have HAL : Hid (A.data.toList = Z.data.toList.take p) := Lib.hid (by rw [← hA, ext_list]; simp)
                  have hA1 : A.toList.isEmpty = false := bempty hA0
                  have hA2 : ¬ A.toList = [] := bnil hA0
                  have HZ0 : Hid (A[0] = Z[0]) := Lib.hid (get_ext Z A p hA hA0 h0)
                  obtain ⟨B, hB⟩ : ∃ B, Z.extract (p + 1) Z.size = B := ⟨_, rfl⟩
                  have HBL : Hid (B.data.toList = Z.data.toList.drop (p + 1)) := Lib.hid (by rw [← hB, ext_list, List.take_of_length_le]; rw [List.length_drop, ← lsize]; omega)
                  have HBS : Hid (B.size = Z.size - (p + 1)) := Lib.hid (by rw [lsize, HBL.out, List.length_drop, ← lsize])
                  clear hA00 hpz
                  by_cases hbad : 1 < p ∧ Z[0] = 48
                  · obtain ⟨hb1, hb2⟩ := hbad
                    have u1 : ((A[0].toNat : Int) == 48) = true := byte_eq 48 (by rw [HZ0.out]; exact hb2)
                    have u1n : ((A[0].toNat : Int) != 48) = false := by rw [bne, u1]; rfl
                    have u2 : ((p : Int) == 1) = false := by simp; omega
                    clear HSE hb2
                    go_wp2_with fail
                    try rw [Exit.noGoto_ret]
                    exact bodyPost_ret (v := .tuple #[.agg #[.bool true, .string A, .string B], .bool false]) (by simp [results, Tryd.results23, go_sem]) rfl (by rw [HOK.out]; exact ⟨below_three w _ _ _, true, false, A, B, rfl, rfl⟩)
                  · have hch : p = 1 ∨ (1 < p ∧ Z[0] ≠ 48) := by
                      by_cases h1 : p = 1
                      · exact .inl h1
                      · exact .inr ⟨by omega, fun e => hbad ⟨by omega, e⟩⟩
                    have hmore : (B.size = 0 ∧ rightB Z.data.toList p = false) ∨ (0 < B.size ∧ rightB Z.data.toList p = true) := by
                      rcases Nat.eq_zero_or_pos B.size with h | h
                      · exact .inl ⟨h, right_stop (by omega) hplt (by have := HBS.out; omega)⟩
                      · exact .inr ⟨h, right_more h0 (by omega) hbad (by have := HBS.out; omega)⟩
                    clear hbad
                    rcases hmore with ⟨hb0, hrr⟩ | ⟨hb0, hrr⟩
                    · have hB1 : B.toList = [] := bzero hb0
                      clear HSE hrr
                      rcases hch with h1 | ⟨h1, h2⟩
                      · have u2 : ((p : Int) == 1) = true := by rw [h1]; rfl
                        by_cases h48 : Z[0] = 48
                        · have u1 : ((A[0].toNat : Int) == 48) = true := byte_eq 48 (by rw [HZ0.out]; exact h48)
                          have u1n : ((A[0].toNat : Int) != 48) = false := by rw [bne, u1]; rfl
                          clear h48 h1
                          go_wp2_with fail
                          try rw [Exit.noGoto_ret]
                          exact bodyPost_ret (v := .tuple #[.agg #[.bool true, .string A, .string B], .bool false]) (by simp [results, Tryd.results23, go_sem]) rfl (by rw [HOK.out]; exact ⟨below_three w _ _ _, true, false, A, B, rfl, rfl⟩)
                        · have u1 : ((A[0].toNat : Int) == 48) = false := byte_ne 48 (by rw [HZ0.out]; exact h48)
                          have u1n : ((A[0].toNat : Int) != 48) = true := by rw [bne, u1]; rfl
                          clear h48 h1
                          go_wp2_with fail
                          try rw [Exit.noGoto_ret]
                          exact bodyPost_ret (v := .tuple #[.agg #[.bool true, .string A, .string B], .bool false]) (by simp [results, Tryd.results23, go_sem]) rfl (by rw [HOK.out]; exact ⟨below_three w _ _ _, true, false, A, B, rfl, rfl⟩)
                      · have u1 : ((A[0].toNat : Int) == 48) = false := byte_ne 48 (by rw [HZ0.out]; exact h2)
                        have u1n : ((A[0].toNat : Int) != 48) = true := by rw [bne, u1]; rfl
                        clear h2
                        go_wp2_with fail
                        try rw [Exit.noGoto_ret]
                        exact bodyPost_ret (v := .tuple #[.agg #[.bool true, .string A, .string B], .bool false]) (by simp [results, Tryd.results23, go_sem]) rfl (by rw [HOK.out]; exact ⟨below_three w _ _ _, true, false, A, B, rfl, rfl⟩)
                    · have hB1 : B.toList.isEmpty = false := bempty hb0
                      have hB2 : ¬ B.toList = [] := bnil hb0
                      clear HSE hrr
                      rcases hch with h1 | ⟨h1, h2⟩
                      · have u2 : ((p : Int) == 1) = true := by rw [h1]; rfl
                        by_cases h48 : Z[0] = 48
                        · have u1 : ((A[0].toNat : Int) == 48) = true := byte_eq 48 (by rw [HZ0.out]; exact h48)
                          have u1n : ((A[0].toNat : Int) != 48) = false := by rw [bne, u1]; rfl
                          clear h48 h1
                          go_wp2_with fail
                          try rw [Exit.noGoto_ret]
                          exact bodyPost_ret (v := .tuple #[.agg #[.bool true, .string A, .string B], .bool false]) (by simp [results, Tryd.results23, go_sem]) rfl (by rw [HOK.out]; exact ⟨below_three w _ _ _, true, false, A, B, rfl, rfl⟩)
                        · have u1 : ((A[0].toNat : Int) == 48) = false := byte_ne 48 (by rw [HZ0.out]; exact h48)
                          have u1n : ((A[0].toNat : Int) != 48) = true := by rw [bne, u1]; rfl
                          clear h48 h1
                          go_wp2_with fail
                          try rw [Exit.noGoto_ret]
                          exact bodyPost_ret (v := .tuple #[.agg #[.bool true, .string A, .string B], .bool false]) (by simp [results, Tryd.results23, go_sem]) rfl (by rw [HOK.out]; exact ⟨below_three w _ _ _, true, false, A, B, rfl, rfl⟩)
                      · have u1 : ((A[0].toNat : Int) == 48) = false := byte_ne 48 (by rw [HZ0.out]; exact h2)
                        have u1n : ((A[0].toNat : Int) != 48) = true := by rw [bne, u1]; rfl
                        clear h2
                        go_wp2_with fail
                        try rw [Exit.noGoto_ret]
                        exact bodyPost_ret (v := .tuple #[.agg #[.bool true, .string A, .string B], .bool false]) (by simp [results, Tryd.results23, go_sem]) rfl (by rw [HOK.out]; exact ⟨below_three w _ _ _, true, false, A, B, rfl, rfl⟩)
            · have v2 : ((p : Int) == (Z.size : Int)) = false := by simp; omega
              have v1 : ((c.toNat : Int) == 46) = true := byte_eq 46 h4
              clear h4
              have v3 : ¬ p = Z.size := h
              clear h
              go_wp2_with fail
              refine (HDIG.out _ _).mono ?_
              rintro e w1 ⟨rfl, hw1⟩
              subst hw1
              rw [isDig_int, HD.out]
              clear hnx2
              by_cases hp0 : p = 0
              · subst hp0
                obtain ⟨B, hB⟩ : ∃ B, Z.extract 1 Z.size = B := ⟨_, rfl⟩
                clear HSE
                go_wp2_with fail
                try rw [Exit.noGoto_ret]
                exact bodyPost_ret (v := .tuple #[.agg #[.bool true, .string ByteArray.empty, .string B], .bool false]) (by simp [results, Tryd.results23, go_sem]) rfl (by rw [HOK.out]; exact ⟨below_three w _ _ _, true, false, ByteArray.empty, B, rfl, rfl⟩)
              · by_cases hpz : p = Z.size
                · exact absurd hpz v3
                · have hplt : p < Z.size := by omega
                  have hne : ((p : Int) == (Z.size : Int)) = false := by simp; omega
                  have hne2 : ¬ p = Z.size := hpz
                  have hA00 := ext_zero Z p h0 (by omega) hple
                  obtain ⟨A, hA⟩ : ∃ A, Z.extract 0 p = A := ⟨_, rfl⟩
                  have hAs : A.size = p := by rw [← hA, lsize, ext_list, List.length_take, List.length_drop, ← lsize]; omega
                  have hA0 : 0 < A.size := by omega
                  have HAL : Hid (A.data.toList = Z.data.toList.take p) := Lib.hid (by rw [← hA, ext_list]; simp)
                  have hA1 : A.toList.isEmpty = false := bempty hA0
                  have hA2 : ¬ A.toList = [] := bnil hA0
                  have HZ0 : Hid (A[0] = Z[0]) := Lib.hid (get_ext Z A p hA hA0 h0)
                  obtain ⟨B, hB⟩ : ∃ B, Z.extract (p + 1) Z.size = B := ⟨_, rfl⟩
                  have HBL : Hid (B.data.toList = Z.data.toList.drop (p + 1)) := Lib.hid (by rw [← hB, ext_list, List.take_of_length_le]; rw [List.length_drop, ← lsize]; omega)
                  have HBS : Hid (B.size = Z.size - (p + 1)) := Lib.hid (by rw [lsize, HBL.out, List.length_drop, ← lsize])
                  clear hA00 hpz
                  by_cases hbad : 1 < p ∧ Z[0] = 48
                  · obtain ⟨hb1, hb2⟩ := hbad
                    have u1 : ((A[0].toNat : Int) == 48) = true := byte_eq 48 (by rw [HZ0.out]; exact hb2)
                    have u1n : ((A[0].toNat : Int) != 48) = false := by rw [bne, u1]; rfl
                    have u2 : ((p : Int) == 1) = false := by simp; omega
                    clear HSE hb2
                    go_wp2_with fail
                    try rw [Exit.noGoto_ret]
                    exact bodyPost_ret (v := .tuple #[.agg #[.bool true, .string A, .string B], .bool false]) (by simp [results, Tryd.results23, go_sem]) rfl (by rw [HOK.out]; exact ⟨below_three w _ _ _, true, false, A, B, rfl, rfl⟩)
                  · have hch : p = 1 ∨ (1 < p ∧ Z[0] ≠ 48) := by
                      by_cases h1 : p = 1
                      · exact .inl h1
                      · exact .inr ⟨by omega, fun e => hbad ⟨by omega, e⟩⟩
                    have hmore : (B.size = 0 ∧ rightB Z.data.toList p = false) ∨ (0 < B.size ∧ rightB Z.data.toList p = true) := by
                      rcases Nat.eq_zero_or_pos B.size with h | h
                      · exact .inl ⟨h, right_stop (by omega) hplt (by have := HBS.out; omega)⟩
                      · exact .inr ⟨h, right_more h0 (by omega) hbad (by have := HBS.out; omega)⟩
                    clear hbad
                    rcases hmore with ⟨hb0, hrr⟩ | ⟨hb0, hrr⟩
                    · have hB1 : B.toList = [] := bzero hb0
                      clear HSE hrr
                      rcases hch with h1 | ⟨h1, h2⟩
                      · have u2 : ((p : Int) == 1) = true := by rw [h1]; rfl
                        by_cases h48 : Z[0] = 48
                        · have u1 : ((A[0].toNat : Int) == 48) = true := byte_eq 48 (by rw [HZ0.out]; exact h48)
                          have u1n : ((A[0].toNat : Int) != 48) = false := by rw [bne, u1]; rfl
                          clear h48 h1
                          go_wp2_with fail
                          try rw [Exit.noGoto_ret]
                          exact bodyPost_ret (v := .tuple #[.agg #[.bool true, .string A, .string B], .bool false]) (by simp [results, Tryd.results23, go_sem]) rfl (by rw [HOK.out]; exact ⟨below_three w _ _ _, true, false, A, B, rfl, rfl⟩)
                        · have u1 : ((A[0].toNat : Int) == 48) = false := byte_ne 48 (by rw [HZ0.out]; exact h48)
                          have u1n : ((A[0].toNat : Int) != 48) = true := by rw [bne, u1]; rfl
                          clear h48 h1
                          go_wp2_with fail
                          try rw [Exit.noGoto_ret]
                          exact bodyPost_ret (v := .tuple #[.agg #[.bool true, .string A, .string B], .bool false]) (by simp [results, Tryd.results23, go_sem]) rfl (by rw [HOK.out]; exact ⟨below_three w _ _ _, true, false, A, B, rfl, rfl⟩)
                      · have u1 : ((A[0].toNat : Int) == 48) = false := byte_ne 48 (by rw [HZ0.out]; exact h2)
                        have u1n : ((A[0].toNat : Int) != 48) = true := by rw [bne, u1]; rfl
                        clear h2
                        go_wp2_with fail
                        try rw [Exit.noGoto_ret]
                        exact bodyPost_ret (v := .tuple #[.agg #[.bool true, .string A, .string B], .bool false]) (by simp [results, Tryd.results23, go_sem]) rfl (by rw [HOK.out]; exact ⟨below_three w _ _ _, true, false, A, B, rfl, rfl⟩)
                    · have hB1 : B.toList.isEmpty = false := bempty hb0
                      have hB2 : ¬ B.toList = [] := bnil hb0
                      clear HSE hrr
                      rcases hch with h1 | ⟨h1, h2⟩
                      · have u2 : ((p : Int) == 1) = true := by rw [h1]; rfl
                        by_cases h48 : Z[0] = 48
                        · have u1 : ((A[0].toNat : Int) == 48) = true := byte_eq 48 (by rw [HZ0.out]; exact h48)
                          have u1n : ((A[0].toNat : Int) != 48) = false := by rw [bne, u1]; rfl
                          clear h48 h1
                          go_wp2_with fail
                          try rw [Exit.noGoto_ret]
                          exact bodyPost_ret (v := .tuple #[.agg #[.bool true, .string A, .string B], .bool false]) (by simp [results, Tryd.results23, go_sem]) rfl (by rw [HOK.out]; exact ⟨below_three w _ _ _, true, false, A, B, rfl, rfl⟩)
                        · have u1 : ((A[0].toNat : Int) == 48) = false := byte_ne 48 (by rw [HZ0.out]; exact h48)
                          have u1n : ((A[0].toNat : Int) != 48) = true := by rw [bne, u1]; rfl
                          clear h48 h1
                          go_wp2_with fail
                          try rw [Exit.noGoto_ret]
                          exact bodyPost_ret (v := .tuple #[.agg #[.bool true, .string A, .string B], .bool false]) (by simp [results, Tryd.results23, go_sem]) rfl (by rw [HOK.out]; exact ⟨below_three w _ _ _, true, false, A, B, rfl, rfl⟩)
                      · have u1 : ((A[0].toNat : Int) == 48) = false := byte_ne 48 (by rw [HZ0.out]; exact h2)
                        have u1n : ((A[0].toNat : Int) != 48) = true := by rw [bne, u1]; rfl
                        clear h2
                        go_wp2_with fail
                        try rw [Exit.noGoto_ret]
                        exact bodyPost_ret (v := .tuple #[.agg #[.bool true, .string A, .string B], .bool false]) (by simp [results, Tryd.results23, go_sem]) rfl (by rw [HOK.out]; exact ⟨below_three w _ _ _, true, false, A, B, rfl, rfl⟩)
      · obtain ⟨r, wd, hr, hnx⟩ := next_high W0 _ HS0.out Z pos hlt (by omega)
        have hnx2 : ∀ ty, (Instr.next (.pointer (some ⟨w.heap.size + 1 + 1, 0, none⟩)) true ty).run Tryd.prog (W0.iter Z pos) = .ok (.tuple #[.bool true, .int .i64 (pos : Int), .int .i32 (r : Int)]) (((w.alloc (.cells #[.bool false, .string ⟨#[]⟩, .string ⟨#[]⟩] 51)).alloc (.cells #[.bool true, .string ⟨#[]⟩, .string ⟨#[]⟩] 51)).alloc (.stringIter Z (pos + wd))) := fun ty => by rw [← HITER.out]; exact hnx ty
        have HOK := Lib.hid (HSE.out.bad HL.out (isDig_no.2 (by omega)) (.inl (fun e => ha (by rw [e]; decide))) true)
        have dr : decide (48 ≤ (r : Int) ∧ (r : Int) ≤ 57) = false := by simp; omega
        have v1 : ((r : Int) == 46) = false := by simp; omega
        clear hnx ha
        go_wp2_with fail
        refine (HDIG.out _ _).mono ?_
        rintro e w1 ⟨rfl, hw1⟩
        subst hw1
        rw [dr]
        clear hnx2 dr
        by_cases hp0 : p = 0
        · subst hp0
          obtain ⟨B, hB⟩ : ∃ B, Z.extract 1 Z.size = B := ⟨_, rfl⟩
          clear HSE
          go_wp2_with fail
          try rw [Exit.noGoto_ret]
          exact bodyPost_ret (v := .tuple #[.agg #[.bool true, .string ByteArray.empty, .string B], .bool false]) (by simp [results, Tryd.results23, go_sem]) rfl (by rw [HOK.out]; exact ⟨below_three w _ _ _, true, false, ByteArray.empty, B, rfl, rfl⟩)
        · by_cases hpz : p = Z.size
          · subst hpz
            have hA1 : Z.toList.isEmpty = false := bempty h0
            have hA2 : ¬ Z.toList = [] := bnil h0
            by_cases hbad : 1 < Z.size ∧ Z[0] = 48
            · obtain ⟨hb1, hb2⟩ := hbad
              have u1 : ((Z[0].toNat : Int) == 48) = true := byte_eq 48 hb2
              have u1n : ((Z[0].toNat : Int) != 48) = false := by rw [bne, u1]; rfl
              have u2 : ((Z.size : Int) == 1) = false := by simp; omega
              clear HSE hb2
              go_wp2_with fail
              try rw [Exit.noGoto_ret]
              exact bodyPost_ret (v := .tuple #[.agg #[.bool true, .string Z, .string ⟨#[]⟩], .bool false]) (by simp [results, Tryd.results23, go_sem]) rfl (by rw [HOK.out]; exact ⟨below_three w _ _ _, true, false, Z, ⟨#[]⟩, rfl, rfl⟩)
            · have HR := Lib.hid (right_whole h0 hbad)
              have HAL : Hid (Z.data.toList = Z.data.toList) := Lib.hid rfl
              have HBL : Hid ((ByteArray.mk #[]).data.toList = []) := Lib.hid rfl
              have hch : Z.size = 1 ∨ (1 < Z.size ∧ Z[0] ≠ 48) := by
                by_cases h1 : Z.size = 1
                · exact .inl h1
                · exact .inr ⟨by omega, fun e => hbad ⟨by omega, e⟩⟩
              clear HSE hbad
              rcases hch with h1 | ⟨h1, h2⟩
              · have u2 : ((Z.size : Int) == 1) = true := by rw [h1]; rfl
                by_cases h48 : Z[0] = 48
                · have u1 : ((Z[0].toNat : Int) == 48) = true := byte_eq 48 h48
                  have u1n : ((Z[0].toNat : Int) != 48) = false := by rw [bne, u1]; rfl
                  clear h48 h1
                  go_wp2_with fail
                  try rw [Exit.noGoto_ret]
                  exact bodyPost_ret (v := .tuple #[.agg #[.bool true, .string Z, .string ⟨#[]⟩], .bool false]) (by simp [results, Tryd.results23, go_sem]) rfl (by rw [HOK.out]; exact ⟨below_three w _ _ _, true, false, Z, ⟨#[]⟩, rfl, rfl⟩)
                · have u1 : ((Z[0].toNat : Int) == 48) = false := byte_ne 48 h48
                  have u1n : ((Z[0].toNat : Int) != 48) = true := by rw [bne, u1]; rfl
                  clear h48 h1
                  go_wp2_with fail
                  try rw [Exit.noGoto_ret]
                  exact bodyPost_ret (v := .tuple #[.agg #[.bool true, .string Z, .string ⟨#[]⟩], .bool false]) (by simp [results, Tryd.results23, go_sem]) rfl (by rw [HOK.out]; exact ⟨below_three w _ _ _, true, false, Z, ⟨#[]⟩, rfl, rfl⟩)
              · have u1 : ((Z[0].toNat : Int) == 48) = false := byte_ne 48 h2
                have u1n : ((Z[0].toNat : Int) != 48) = true := by rw [bne, u1]; rfl
                clear h2
                go_wp2_with fail
                try rw [Exit.noGoto_ret]
                exact bodyPost_ret (v := .tuple #[.agg #[.bool true, .string Z, .string ⟨#[]⟩], .bool false]) (by simp [results, Tryd.results23, go_sem]) rfl (by rw [HOK.out]; exact ⟨below_three w _ _ _, true, false, Z, ⟨#[]⟩, rfl, rfl⟩)
          · have hplt : p < Z.size := by omega
            have hne : ((p : Int) == (Z.size : Int)) = false := by simp; omega
            have hne2 : ¬ p = Z.size := hpz
            have hA00 := ext_zero Z p h0 (by omega) hple
            obtain ⟨A, hA⟩ : ∃ A, Z.extract 0 p = A := ⟨_, rfl⟩
            have hAs : A.size = p := by rw [← hA, lsize, ext_list, List.length_take, List.length_drop, ← lsize]; omega
            have hA0 : 0 < A.size := by omega
            have HAL : Hid (A.data.toList = Z.data.toList.take p) := Lib.hid (by rw [← hA, ext_list]; simp)
            have hA1 : A.toList.isEmpty = false := bempty hA0
            have hA2 : ¬ A.toList = [] := bnil hA0
            have HZ0 : Hid (A[0] = Z[0]) := Lib.hid (get_ext Z A p hA hA0 h0)
            obtain ⟨B, hB⟩ : ∃ B, Z.extract (p + 1) Z.size = B := ⟨_, rfl⟩
            have HBL : Hid (B.data.toList = Z.data.toList.drop (p + 1)) := Lib.hid (by rw [← hB, ext_list, List.take_of_length_le]; rw [List.length_drop, ← lsize]; omega)
            have HBS : Hid (B.size = Z.size - (p + 1)) := Lib.hid (by rw [lsize, HBL.out, List.length_drop, ← lsize])
            clear hA00 hpz
            by_cases hbad : 1 < p ∧ Z[0] = 48
            · obtain ⟨hb1, hb2⟩ := hbad
              have u1 : ((A[0].toNat : Int) == 48) = true := byte_eq 48 (by rw [HZ0.out]; exact hb2)
              have u1n : ((A[0].toNat : Int) != 48) = false := by rw [bne, u1]; rfl
              have u2 : ((p : Int) == 1) = false := by simp; omega
              clear HSE hb2
              go_wp2_with fail
              try rw [Exit.noGoto_ret]
              exact bodyPost_ret (v := .tuple #[.agg #[.bool true, .string A, .string B], .bool false]) (by simp [results, Tryd.results23, go_sem]) rfl (by rw [HOK.out]; exact ⟨below_three w _ _ _, true, false, A, B, rfl, rfl⟩)
            · have hch : p = 1 ∨ (1 < p ∧ Z[0] ≠ 48) := by
                by_cases h1 : p = 1
                · exact .inl h1
                · exact .inr ⟨by omega, fun e => hbad ⟨by omega, e⟩⟩
              have hmore : (B.size = 0 ∧ rightB Z.data.toList p = false) ∨ (0 < B.size ∧ rightB Z.data.toList p = true) := by
                rcases Nat.eq_zero_or_pos B.size with h | h
                · exact .inl ⟨h, right_stop (by omega) hplt (by have := HBS.out; omega)⟩
                · exact .inr ⟨h, right_more h0 (by omega) hbad (by have := HBS.out; omega)⟩
              clear hbad
              rcases hmore with ⟨hb0, hrr⟩ | ⟨hb0, hrr⟩
              · have hB1 : B.toList = [] := bzero hb0
                clear HSE hrr
                rcases hch with h1 | ⟨h1, h2⟩
                · have u2 : ((p : Int) == 1) = true := by rw [h1]; rfl
                  by_cases h48 : Z[0] = 48
                  · have u1 : ((A[0].toNat : Int) == 48) = true := byte_eq 48 (by rw [HZ0.out]; exact h48)
                    have u1n : ((A[0].toNat : Int) != 48) = false := by rw [bne, u1]; rfl
                    clear h48 h1
                    go_wp2_with fail
                    try rw [Exit.noGoto_ret]
                    exact bodyPost_ret (v := .tuple #[.agg #[.bool true, .string A, .string B], .bool false]) (by simp [results, Tryd.results23, go_sem]) rfl (by rw [HOK.out]; exact ⟨below_three w _ _ _, true, false, A, B, rfl, rfl⟩)
                  · have u1 : ((A[0].toNat : Int) == 48) = false := byte_ne 48 (by rw [HZ0.out]; exact h48)
                    have u1n : ((A[0].toNat : Int) != 48) = true := by rw [bne, u1]; rfl
                    clear h48 h1
                    go_wp2_with fail
                    try rw [Exit.noGoto_ret]
                    exact bodyPost_ret (v := .tuple #[.agg #[.bool true, .string A, .string B], .bool false]) (by simp [results, Tryd.results23, go_sem]) rfl (by rw [HOK.out]; exact ⟨below_three w _ _ _, true, false, A, B, rfl, rfl⟩)
                · have u1 : ((A[0].toNat : Int) == 48) = false := byte_ne 48 (by rw [HZ0.out]; exact h2)
                  have u1n : ((A[0].toNat : Int) != 48) = true := by rw [bne, u1]; rfl
                  clear h2
                  go_wp2_with fail
                  try rw [Exit.noGoto_ret]
                  exact bodyPost_ret (v := .tuple #[.agg #[.bool true, .string A, .string B], .bool false]) (by simp [results, Tryd.results23, go_sem]) rfl (by rw [HOK.out]; exact ⟨below_three w _ _ _, true, false, A, B, rfl, rfl⟩)
              · have hB1 : B.toList.isEmpty = false := bempty hb0
                have hB2 : ¬ B.toList = [] := bnil hb0
                clear HSE hrr
                rcases hch with h1 | ⟨h1, h2⟩
                · have u2 : ((p : Int) == 1) = true := by rw [h1]; rfl
                  by_cases h48 : Z[0] = 48
                  · have u1 : ((A[0].toNat : Int) == 48) = true := byte_eq 48 (by rw [HZ0.out]; exact h48)
                    have u1n : ((A[0].toNat : Int) != 48) = false := by rw [bne, u1]; rfl
                    clear h48 h1
                    go_wp2_with fail
                    try rw [Exit.noGoto_ret]
                    exact bodyPost_ret (v := .tuple #[.agg #[.bool true, .string A, .string B], .bool false]) (by simp [results, Tryd.results23, go_sem]) rfl (by rw [HOK.out]; exact ⟨below_three w _ _ _, true, false, A, B, rfl, rfl⟩)
                  · have u1 : ((A[0].toNat : Int) == 48) = false := byte_ne 48 (by rw [HZ0.out]; exact h48)
                    have u1n : ((A[0].toNat : Int) != 48) = true := by rw [bne, u1]; rfl
                    clear h48 h1
                    go_wp2_with fail
                    try rw [Exit.noGoto_ret]
                    exact bodyPost_ret (v := .tuple #[.agg #[.bool true, .string A, .string B], .bool false]) (by simp [results, Tryd.results23, go_sem]) rfl (by rw [HOK.out]; exact ⟨below_three w _ _ _, true, false, A, B, rfl, rfl⟩)
                · have u1 : ((A[0].toNat : Int) == 48) = false := byte_ne 48 (by rw [HZ0.out]; exact h2)
                  have u1n : ((A[0].toNat : Int) != 48) = true := by rw [bne, u1]; rfl
                  clear h2
                  go_wp2_with fail
                  try rw [Exit.noGoto_ret]
                  exact bodyPost_ret (v := .tuple #[.agg #[.bool true, .string A, .string B], .bool false]) (by simp [results, Tryd.results23, go_sem]) rfl (by rw [HOK.out]; exact ⟨below_three w _ _ _, true, false, A, B, rfl, rfl⟩)
    · obtain rfl : pos = Z.size := by omega
      have hnx := next_end W0 _ HS0.out Z Z.size hlt
      have hnx2 : ∀ ty, (Instr.next (.pointer (some ⟨w.heap.size + 1 + 1, 0, none⟩)) true ty).run Tryd.prog (W0.iter Z Z.size) = .ok (.tuple #[.bool false]) (((w.alloc (.cells #[.bool false, .string ⟨#[]⟩, .string ⟨#[]⟩] 51)).alloc (.cells #[.bool true, .string ⟨#[]⟩, .string ⟨#[]⟩] 51)).alloc (.stringIter Z Z.size)) := fun ty => by rw [← HITER.out]; exact hnx ty
      have HSE := Lib.hid (show Seen Z.data.toList Z.data.toList.length p by rw [← hsz.out]; exact HSE.out)
      clear hnx
      by_cases hp0 : p = 0
      · subst hp0
        obtain ⟨B, hB⟩ : ∃ B, Z.extract 1 Z.size = B := ⟨_, rfl⟩
        have HOK : Hid (restL true Z.data.toList = none) := Lib.hid (by rw [HSE.out.good true]; rfl)
        clear HSE
        go_wp2_with fail
        try rw [Exit.noGoto_ret]
        exact bodyPost_ret (v := .tuple #[.agg #[.bool true, .string ByteArray.empty, .string B], .bool false]) (by simp [results, Tryd.results23, go_sem]) rfl (by rw [HOK.out]; exact ⟨below_three w _ _ _, true, false, ByteArray.empty, B, rfl, rfl⟩)
      · by_cases hpz : p = Z.size
        · subst hpz
          have hA1 : Z.toList.isEmpty = false := bempty h0
          have hA2 : ¬ Z.toList = [] := bnil h0
          by_cases hbad : 1 < Z.size ∧ Z[0] = 48
          · obtain ⟨hb1, hb2⟩ := hbad
            have u1 : ((Z[0].toNat : Int) == 48) = true := byte_eq 48 hb2
            have u1n : ((Z[0].toNat : Int) != 48) = false := by rw [bne, u1]; rfl
            have u2 : ((Z.size : Int) == 1) = false := by simp; omega
            have HOK : Hid (restL true Z.data.toList = none) := Lib.hid (by rw [HSE.out.good true, if_neg (by rw [right_zero h0 hb1 hb2]; decide)])
            clear HSE hb2
            go_wp2_with fail
            try rw [Exit.noGoto_ret]
            exact bodyPost_ret (v := .tuple #[.agg #[.bool true, .string Z, .string ⟨#[]⟩], .bool false]) (by simp [results, Tryd.results23, go_sem]) rfl (by rw [HOK.out]; exact ⟨below_three w _ _ _, true, false, Z, ⟨#[]⟩, rfl, rfl⟩)
          · have HR := Lib.hid (right_whole h0 hbad)
            have HOK : Hid (restL true Z.data.toList = some (true, Z.data.toList, [])) := Lib.hid (by rw [HSE.out.good true, if_pos HR.out]; rw [lsize, List.take_length, List.drop_of_length_le (by omega)])
            have HAL : Hid (Z.data.toList = Z.data.toList) := Lib.hid rfl
            have HBL : Hid ((ByteArray.mk #[]).data.toList = []) := Lib.hid rfl
            have hch : Z.size = 1 ∨ (1 < Z.size ∧ Z[0] ≠ 48) := by
              by_cases h1 : Z.size = 1
              · exact .inl h1
              · exact .inr ⟨by omega, fun e => hbad ⟨by omega, e⟩⟩
            clear HSE hbad
            rcases hch with h1 | ⟨h1, h2⟩
            · have u2 : ((Z.size : Int) == 1) = true := by rw [h1]; rfl
              by_cases h48 : Z[0] = 48
              · have u1 : ((Z[0].toNat : Int) == 48) = true := byte_eq 48 h48
                have u1n : ((Z[0].toNat : Int) != 48) = false := by rw [bne, u1]; rfl
                clear h48 h1
                go_wp2_with fail
                try rw [Exit.noGoto_ret]
                exact bodyPost_ret (v := .tuple #[.agg #[.bool true, .string Z, .string ⟨#[]⟩], .bool true]) (by simp [results, Tryd.results23, go_sem]) rfl (by rw [HOK.out]; exact ⟨below_three w _ _ _, true, true, Z, ⟨#[]⟩, rfl, rfl, rfl, rfl, rfl⟩)
              · have u1 : ((Z[0].toNat : Int) == 48) = false := byte_ne 48 h48
                have u1n : ((Z[0].toNat : Int) != 48) = true := by rw [bne, u1]; rfl
                clear h48 h1
                go_wp2_with fail
                try rw [Exit.noGoto_ret]
                exact bodyPost_ret (v := .tuple #[.agg #[.bool true, .string Z, .string ⟨#[]⟩], .bool true]) (by simp [results, Tryd.results23, go_sem]) rfl (by rw [HOK.out]; exact ⟨below_three w _ _ _, true, true, Z, ⟨#[]⟩, rfl, rfl, rfl, rfl, rfl⟩)
            · have u1 : ((Z[0].toNat : Int) == 48) = false := byte_ne 48 h2
              have u1n : ((Z[0].toNat : Int) != 48) = true := by rw [bne, u1]; rfl
              clear h2
              go_wp2_with fail
              try rw [Exit.noGoto_ret]
              exact bodyPost_ret (v := .tuple #[.agg #[.bool true, .string Z, .string ⟨#[]⟩], .bool true]) (by simp [results, Tryd.results23, go_sem]) rfl (by rw [HOK.out]; exact ⟨below_three w _ _ _, true, true, Z, ⟨#[]⟩, rfl, rfl, rfl, rfl, rfl⟩)
        · have hplt : p < Z.size := by omega
          have hne : ((p : Int) == (Z.size : Int)) = false := by simp; omega
          have hne2 : ¬ p = Z.size := hpz
          have hA00 := ext_zero Z p h0 (by omega) hple
          obtain ⟨A, hA⟩ : ∃ A, Z.extract 0 p = A := ⟨_, rfl⟩
          have hAs : A.size = p := by rw [← hA, lsize, ext_list, List.length_take, List.length_drop, ← lsize]; omega
          have hA0 : 0 < A.size := by omega
          have HAL : Hid (A.data.toList = Z.data.toList.take p) := Lib.hid (by rw [← hA, ext_list]; simp)
          have hA1 : A.toList.isEmpty = false := bempty hA0
          have hA2 : ¬ A.toList = [] := bnil hA0
          have HZ0 : Hid (A[0] = Z[0]) := Lib.hid (get_ext Z A p hA hA0 h0)
          obtain ⟨B, hB⟩ : ∃ B, Z.extract (p + 1) Z.size = B := ⟨_, rfl⟩
          have HBL : Hid (B.data.toList = Z.data.toList.drop (p + 1)) := Lib.hid (by rw [← hB, ext_list, List.take_of_length_le]; rw [List.length_drop, ← lsize]; omega)
          have HBS : Hid (B.size = Z.size - (p + 1)) := Lib.hid (by rw [lsize, HBL.out, List.length_drop, ← lsize])
          clear hA00 hpz
          by_cases hbad : 1 < p ∧ Z[0] = 48
          · obtain ⟨hb1, hb2⟩ := hbad
            have u1 : ((A[0].toNat : Int) == 48) = true := byte_eq 48 (by rw [HZ0.out]; exact hb2)
            have u1n : ((A[0].toNat : Int) != 48) = false := by rw [bne, u1]; rfl
            have u2 : ((p : Int) == 1) = false := by simp; omega
            have HOK : Hid (restL true Z.data.toList = none) := Lib.hid (by rw [HSE.out.good true, if_neg (by rw [right_zero h0 hb1 hb2]; decide)])
            clear HSE hb2
            go_wp2_with fail
            try rw [Exit.noGoto_ret]
            exact bodyPost_ret (v := .tuple #[.agg #[.bool true, .string A, .string B], .bool false]) (by simp [results, Tryd.results23, go_sem]) rfl (by rw [HOK.out]; exact ⟨below_three w _ _ _, true, false, A, B, rfl, rfl⟩)
          · have hch : p = 1 ∨ (1 < p ∧ Z[0] ≠ 48) := by
              by_cases h1 : p = 1
              · exact .inl h1
              · exact .inr ⟨by omega, fun e => hbad ⟨by omega, e⟩⟩
            have hmore : (B.size = 0 ∧ rightB Z.data.toList p = false) ∨ (0 < B.size ∧ rightB Z.data.toList p = true) := by
              rcases Nat.eq_zero_or_pos B.size with h | h
              · exact .inl ⟨h, right_stop (by omega) hplt (by have := HBS.out; omega)⟩
              · exact .inr ⟨h, right_more h0 (by omega) hbad (by have := HBS.out; omega)⟩
            clear hbad
            rcases hmore with ⟨hb0, hrr⟩ | ⟨hb0, hrr⟩
            · have hB1 : B.toList = [] := bzero hb0
              have HOK : Hid (restL true Z.data.toList = none) := Lib.hid (by rw [HSE.out.good true, if_neg (by rw [hrr]; decide)])
              clear HSE hrr
              rcases hch with h1 | ⟨h1, h2⟩
              · have u2 : ((p : Int) == 1) = true := by rw [h1]; rfl
                by_cases h48 : Z[0] = 48
                · have u1 : ((A[0].toNat : Int) == 48) = true := byte_eq 48 (by rw [HZ0.out]; exact h48)
                  have u1n : ((A[0].toNat : Int) != 48) = false := by rw [bne, u1]; rfl
                  clear h48 h1
                  go_wp2_with fail
                  try rw [Exit.noGoto_ret]
                  exact bodyPost_ret (v := .tuple #[.agg #[.bool true, .string A, .string B], .bool false]) (by simp [results, Tryd.results23, go_sem]) rfl (by rw [HOK.out]; exact ⟨below_three w _ _ _, true, false, A, B, rfl, rfl⟩)
                · have u1 : ((A[0].toNat : Int) == 48) = false := byte_ne 48 (by rw [HZ0.out]; exact h48)
                  have u1n : ((A[0].toNat : Int) != 48) = true := by rw [bne, u1]; rfl
                  clear h48 h1
                  go_wp2_with fail
                  try rw [Exit.noGoto_ret]
                  exact bodyPost_ret (v := .tuple #[.agg #[.bool true, .string A, .string B], .bool false]) (by simp [results, Tryd.results23, go_sem]) rfl (by rw [HOK.out]; exact ⟨below_three w _ _ _, true, false, A, B, rfl, rfl⟩)
              · have u1 : ((A[0].toNat : Int) == 48) = false := byte_ne 48 (by rw [HZ0.out]; exact h2)
                have u1n : ((A[0].toNat : Int) != 48) = true := by rw [bne, u1]; rfl
                clear h2
                go_wp2_with fail
                try rw [Exit.noGoto_ret]
                exact bodyPost_ret (v := .tuple #[.agg #[.bool true, .string A, .string B], .bool false]) (by simp [results, Tryd.results23, go_sem]) rfl (by rw [HOK.out]; exact ⟨below_three w _ _ _, true, false, A, B, rfl, rfl⟩)
            · have hB1 : B.toList.isEmpty = false := bempty hb0
              have hB2 : ¬ B.toList = [] := bnil hb0
              have HOK : Hid (restL true Z.data.toList = some (true, Z.data.toList.take p, Z.data.toList.drop (p + 1))) := Lib.hid (by rw [HSE.out.good true, if_pos hrr])
              clear HSE hrr
              rcases hch with h1 | ⟨h1, h2⟩
              · have u2 : ((p : Int) == 1) = true := by rw [h1]; rfl
                by_cases h48 : Z[0] = 48
                · have u1 : ((A[0].toNat : Int) == 48) = true := byte_eq 48 (by rw [HZ0.out]; exact h48)
                  have u1n : ((A[0].toNat : Int) != 48) = false := by rw [bne, u1]; rfl
                  clear h48 h1
                  go_wp2_with fail
                  try rw [Exit.noGoto_ret]
                  exact bodyPost_ret (v := .tuple #[.agg #[.bool true, .string A, .string B], .bool true]) (by simp [results, Tryd.results23, go_sem]) rfl (by rw [HOK.out]; exact ⟨below_three w _ _ _, true, true, A, B, rfl, rfl, rfl, HAL.out, HBL.out⟩)
                · have u1 : ((A[0].toNat : Int) == 48) = false := byte_ne 48 (by rw [HZ0.out]; exact h48)
                  have u1n : ((A[0].toNat : Int) != 48) = true := by rw [bne, u1]; rfl
                  clear h48 h1
                  go_wp2_with fail
                  try rw [Exit.noGoto_ret]
                  exact bodyPost_ret (v := .tuple #[.agg #[.bool true, .string A, .string B], .bool true]) (by simp [results, Tryd.results23, go_sem]) rfl (by rw [HOK.out]; exact ⟨below_three w _ _ _, true, true, A, B, rfl, rfl, rfl, HAL.out, HBL.out⟩)
              · have u1 : ((A[0].toNat : Int) == 48) = false := byte_ne 48 (by rw [HZ0.out]; exact h2)
                have u1n : ((A[0].toNat : Int) != 48) = true := by rw [bne, u1]; rfl
                clear h2
                go_wp2_with fail
                try rw [Exit.noGoto_ret]
                exact bodyPost_ret (v := .tuple #[.agg #[.bool true, .string A, .string B], .bool true]) (by simp [results, Tryd.results23, go_sem]) rfl (by rw [HOK.out]; exact ⟨below_three w _ _ _, true, true, A, B, rfl, rfl, rfl, HAL.out, HBL.out⟩)
end Go.Proofs.YtfpmchhpejncpaaDoor
