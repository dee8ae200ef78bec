/- Digits: Parse, of the document. -/
import Derived.Test.YtfpmchhpejncpaaDoorY
import Derived.Test.YtfpmchhpejncpaaDoorT
namespace Go.Proofs.YtfpmchhpejncpaaDoor
open Go.RowKit
set_option maxRecDepth 100000
set_option linter.unusedVariables false
theorem rev_take {l : List UInt8} {j : Nat} {c : UInt8} (h : l[j]? = some c) : (digs (l.take (j + 1))).reverse = (c.toNat - 48) :: (digs (l.take j)).reverse := by
  rw [digs_step h, List.reverse_append]; rfl
theorem lv_drop {l : List Nat} {j d : Nat} (h : l[j]? = some d) : lv (l.drop j) = d + 10 * lv (l.drop (j + 1)) := by
  have hlt := (List.getElem?_eq_some_iff.1 h).1
  rw [List.drop_eq_getElem_cons hlt, lv, (List.getElem?_eq_some_iff.1 h).2]
theorem lv_take {l : List Nat} {j d : Nat} (h : l[j]? = some d) : lv (l.take (j + 1)) = lv (l.take j) + 10 ^ j * d := by
  have hlt := (List.getElem?_eq_some_iff.1 h).1
  rw [List.take_succ_eq_append_getElem hlt, lv_append, (List.getElem?_eq_some_iff.1 h).2, List.length_take, Nat.min_eq_left (by omega)]
  simp [lv]
theorem upTo_over {X c : Nat} (h : 9223372036854775808 < X) : upTo X c = 9223372036854775809 := by unfold upTo; rw [if_pos h]
theorem upTo_up {X c : Nat} (h : ¬ 9223372036854775808 < X) (h2 : c = 3 ∨ c = 2 ∧ X % 2 = 1) : upTo X c = X + 1 := by unfold upTo; rw [if_neg h, if_pos h2]
theorem upTo_no {X c : Nat} (h : ¬ 9223372036854775808 < X) (h2 : ¬ (c = 3 ∨ c = 2 ∧ X % 2 = 1)) : upTo X c = X := by unfold upTo; rw [if_neg h, if_neg h2]
theorem cls_le (L M : Nat) : cls L M ≤ 3 := by unfold cls; (repeat' split) <;> omega
set_option maxHeartbeats 8000000 in
theorem rParse_none (s : ByteArray) (hs : s.size ≤ 100000) (hp : partsL s.data.toList = none) (w : World) : Calls Tryd.prog 14 #[.string s] w fun e w' => e = .returned (parseT s.data.toList) ∧ Below w.heap.size w w' := by
  have HP := Lib.hid (Parts_any s hs w)
  have HR := Lib.hid (parseT_none hp)
  rw [hp] at HP
  clear hp
  go_enter Tryd.func14, Tryd.ntmps14
  go_wp2_with fail
  refine HP.out.mono ?_
  rintro e w1 ⟨rfl, bl, ok, A, B, rfl, rfl⟩
  go_wp2_with fail
  go_ret3
  exact ⟨by rw [HR.out] <;> rfl, Below.refl _ _⟩
set_option maxHeartbeats 32000000 in
theorem rParse_some (s : ByteArray) (hs : s.size ≤ 100000) (below : Bool) (AL BL : List UInt8) (hp : partsL s.data.toList = some (below, AL, BL)) (w : World) : Calls Tryd.prog 14 #[.string s] w fun e w' => e = .returned (parseT s.data.toList) ∧ Below w.heap.size w w' := by
  have HP := Lib.hid (Parts_any s hs w)
  obtain ⟨hda, hdb⟩ := partsL_dig hp
  have hne := allL_ne (headOk_all (partsL_inv hp).2.1)
  have HPL := Lib.hid hp
  obtain ⟨R, hR⟩ : ∃ R, R = parseT s.data.toList := ⟨_, rfl⟩
  rw [← hR]
  have HR := Lib.hid hR
  rw [hp] at HP
  clear hR
  go_enter Tryd.func14, Tryd.ntmps14
  go_wp2_with fail
  refine HP.out.mono ?_
  rintro e w1 ⟨hw1, bl, ok, A, B, rfl, rfl, rfl, hA, hB⟩
  obtain rfl : w = w1 := hw1.symm
  clear hw1
  have hAl := lsize A
  have hBl := lsize B
  rw [hA] at hAl
  rw [hB] at hBl
  clear hp HP
  by_cases h20 : 20 < A.size
  · have HX := Lib.hid (parseT_long HPL.out (Or.inl (by omega)))
    have d1 : decide (20 < (A.size : Int)) = true := decide_eq_true (by omega)
    go_wp2_with fail
    go_ret3
    exact ⟨by rw [HR.out, HX.out] <;> rfl, Below.refl _ _⟩
  · have d1 : decide (20 < (A.size : Int)) = false := decide_eq_false (by omega)
    by_cases h40 : 40 < B.size
    · have HX := Lib.hid (parseT_long HPL.out (Or.inr (by omega)))
      have d2 : decide (40 < (B.size : Int)) = true := decide_eq_true (by omega)
      go_wp2_with fail
      go_ret3
      exact ⟨by rw [HR.out, HX.out] <;> rfl, Below.refl _ _⟩
    · have HX := Lib.hid (parseT_some HPL.out (by omega))
      have d2 : decide (40 < (B.size : Int)) = false := decide_eq_false (by omega)
      have HRS := Lib.hid (ref_sum hda hdb (by omega))
      -- the text of all digits
      obtain ⟨S, hS⟩ : ∃ S, S = A ++ B := ⟨_, rfl⟩
      have hSl : S.data.toList = AL ++ BL := by rw [hS, app_list, hA, hB]
      have hSs : S.size = AL.length + BL.length := by rw [lsize, hSl, List.length_append]
      have hApos : 0 < AL.length := List.length_pos_iff.2 hne
      have hdS : ∀ b ∈ S.data.toList, isDig b = true := by rw [hSl]; intro b hb; rcases List.mem_append.1 hb with h | h; exact hda b h; exact hdb b h
      go_upto_region 8 with fail
      rw [← hS]
      have HSL := Lib.hid hSl; have HDS := Lib.hid hdS; have HDB := Lib.hid hdb
      obtain ⟨L, hL⟩ : ∃ L, L = (digs S.data.toList).reverse := ⟨_, rfl⟩
      have hLl : L.length = S.size := by rw [hL, List.length_reverse, digs_len, ← lsize]
      have HL := Lib.hid hL
      have HDL : Hid (Dg L) := Lib.hid (by rw [hL]; intro d hd; exact digs_dg hdS d (List.mem_reverse.1 hd))
      have HTL : Hid (allD AL BL = timL L 4294967296 0) := Lib.hid (by unfold allD; rw [hL, hSl])
      have hS60 : S.size ≤ 60 := by omega
      have hS1 : 1 ≤ S.size := by omega
      have hBS : B.size ≤ S.size := by omega
      have HHB := Lib.hid hB
      have HBl := Lib.hid hBl
      clear hS hSl hSs hApos hdS hda hdb hne hL hA hB hAl hBl d1 d2 h20
      go_wp2_with fail
      go_loopw [9, 11] (fun out i wr => ∃ (o : List Nat) (k : Nat), OwnU wr w.heap.size out o ∧ i = .int .i64 ((k : Int) - 1) ∧ k ≤ S.size ∧ o.length + k = S.size ∧ o ++ (digs (S.data.toList.take k)).reverse = L ∧ Below w.heap.size w wr) (fun _ i _ => (intOf i + 1).toNat)
      case atStart => exact ⟨[], S.size, OwnU.nil _ _, by first | rfl | go_num, Nat.le_refl _, by simp, by rw [HL.out, List.take_of_length_le (by rw [← lsize]; exact Nat.le_refl _)]; rfl, Below.refl _ _⟩
      case round =>
        obtain ⟨o, k, hown, rfl, hk, hok, htx, hbl⟩ := hrel
        have HTX := Lib.hid htx; have HBL := Lib.hid hbl
        clear htx hbl
        obtain ⟨oa, cap, rfl⟩ := row_slice hown
        rcases k with _ | j
        · -- all digits are taken
          have HLO : Hid (o = L) := Lib.hid (by have := HTX.out; simpa [digs] using this)
          obtain ⟨g, rfl⟩ : ∃ g, oa = some ⟨g, 0, none⟩ := by
            rcases hown.2 with ⟨_, h0⟩ | ⟨g, cap2, cur, e, _⟩
            · omega
            · cases e; exact ⟨g, rfl⟩
          have hlt := OwnU.lt hown
          have hcells : ∀ (j d : Nat), L[j]? = some d → wr.cell? ⟨g, j, none⟩ = some (.int .u64 (d : Int)) := by rw [← HLO.out]; intro j d h; exact OwnU.cell hown h
          have HTM := Lib.hid (times_any L (by omega) HDL.out g cap wr hlt.2 hcells)
          rw [hLl] at HTM
          have hol : o.length = S.size := by rw [HLO.out, hLl]
          rw [hol]
          clear hown hcells hlt hok hol
          go_wp2_with fail
          refine HTM.out.mono ?_
          rintro e w2 ⟨v2, rfl, hown2, hb2⟩
          have HB2 := Lib.hid (HBL.out.trans (hb2.mono HBL.out.size))
          obtain ⟨T, hT⟩ : ∃ T, T = timL L 4294967296 0 := ⟨_, rfl⟩
          rw [← hT] at hown2
          have hTl : S.size ≤ T.length := by rw [hT, ← hLl]; exact timL_len _ _ _
          have hTl2 : T.length ≤ 70 := by rw [hT]; have := timL_len_le L 0 HDL.out (by omega); omega
          have HDT : Hid (Dg T) := Lib.hid (by rw [hT]; exact (timL_all _ _ _).1)
          rw [HTL.out, ← hT, ← HBl.out] at HRS
          obtain ⟨g2, cap3, e⟩ : ∃ g2 cap3, v2 = .slice (some ⟨g2, 0, none⟩) T.length cap3 := by
            rcases hown2.2 with ⟨_, h0⟩ | ⟨g, cap2, cur, e, _⟩
            · omega
            · exact ⟨g, cap2, e⟩
          subst e
          have HC := Lib.hid (fun (j d : Nat) (h : T[j]? = some d) => OwnU.cell hown2 h)
          clear hown2 hb2 hT HTM
          go_wp2_with fail
          go_loop [12, 13] (fun r i => ∃ k : Nat, k ≤ B.size ∧ i = .int .i64 (k : Int) ∧ r = .int .i64 (cls (lv (T.take k)) (10 ^ k) : Nat)) (fun _ i => B.size - (intOf i).toNat)
          case atStart => exact ⟨0, Nat.zero_le _, rfl, rfl⟩
          case round =>
            obtain ⟨k, hkB, rfl, rfl⟩ := hrel
            obtain ⟨r, hr⟩ : ∃ r, r = cls (lv (T.take k)) (10 ^ k) := ⟨_, rfl⟩
            have hr3 : r ≤ 3 := by rw [hr]; exact cls_le _ _
            rw [← hr]
            have HRR := Lib.hid hr
            clear hr
            by_cases hlt : k < B.size
            · have d1 : decide ((k : Int) < (B.size : Int)) = true := decide_eq_true (by omega)
              have d2 : decide ((k : Int) < (T.length : Int)) = true := decide_eq_true (by omega)
              obtain ⟨d, hd⟩ : ∃ d, T[k]? = some d := ⟨_, List.getElem?_eq_getElem (by omega)⟩
              have c1 := HC.out k d hd
              have hd10 : d < 10 := HDT.out d (List.mem_of_getElem? hd)
              have hL10 : lv (T.take k) < 10 ^ k := by
                have := lv_lt (l := T.take k) (fun d hd => HDT.out d (List.mem_of_mem_take hd))
                rwa [List.length_take, Nat.min_eq_left (by omega)] at this
              have HST : Hid (cls (lv (T.take (k + 1))) (10 ^ (k + 1)) = if d > 5 ∨ d = 5 ∧ r > 0 then 3 else if d = 5 then 2 else if d > 0 ∨ r > 0 then 1 else r) := Lib.hid (by
                rw [lv_take hd, Nat.pow_succ, HRR.out]; exact cls_step _ _ _ hL10 hd10)
              clear hd hL10
              by_cases a5 : 5 < d
              · have e1 : decide (5 < (d : Int)) = true := decide_eq_true (by omega)
                have HV : Hid (cls (lv (T.take (k + 1))) (10 ^ (k + 1)) = 3) := Lib.hid (by rw [HST.out, if_pos (by omega)])
                go_wp2_with fail
                go_round
                case rel => exact ⟨k + 1, hlt, by go_num, by rw [HV.out] <;> rfl⟩
                case measure => simp [intOf] <;> omega
              · have e1 : decide (5 < (d : Int)) = false := decide_eq_false (by omega)
                by_cases b5 : d = 5
                · subst b5
                  by_cases r0 : 0 < r
                  · have e2 : decide (0 < (r : Int)) = true := decide_eq_true (by omega)
                    have HV : Hid (cls (lv (T.take (k + 1))) (10 ^ (k + 1)) = 3) := Lib.hid (by rw [HST.out, if_pos (by omega)])
                    go_wp2_with fail
                    go_round
                    case rel => exact ⟨k + 1, hlt, by go_num, by rw [HV.out] <;> rfl⟩
                    case measure => simp [intOf] <;> omega
                  · have e2 : decide (0 < (r : Int)) = false := decide_eq_false (by omega)
                    have HV : Hid (cls (lv (T.take (k + 1))) (10 ^ (k + 1)) = 2) := Lib.hid (by rw [HST.out, if_neg (by omega), if_pos rfl])
                    go_wp2_with fail
                    go_round
                    case rel => exact ⟨k + 1, hlt, by go_num, by rw [HV.out] <;> rfl⟩
                    case measure => simp [intOf] <;> omega
                · have e3 : ((d : Int) == 5) = false := by simp; omega
                  by_cases d0 : 0 < d
                  · have e2 : decide (0 < (d : Int)) = true := decide_eq_true (by omega)
                    have HV : Hid (cls (lv (T.take (k + 1))) (10 ^ (k + 1)) = 1) := Lib.hid (by rw [HST.out, if_neg (by omega), if_neg b5, if_pos (by omega)])
                    go_wp2_with fail
                    go_round
                    case rel => exact ⟨k + 1, hlt, by go_num, by rw [HV.out] <;> rfl⟩
                    case measure => simp [intOf] <;> omega
                  · have e2 : decide (0 < (d : Int)) = false := decide_eq_false (by omega)
                    by_cases r0 : 0 < r
                    · have e4 : decide (0 < (r : Int)) = true := decide_eq_true (by omega)
                      have HV : Hid (cls (lv (T.take (k + 1))) (10 ^ (k + 1)) = 1) := Lib.hid (by rw [HST.out, if_neg (by omega), if_neg b5, if_pos (by omega)])
                      go_wp2_with fail
                      go_round
                      case rel => exact ⟨k + 1, hlt, by go_num, by rw [HV.out] <;> rfl⟩
                      case measure => simp [intOf] <;> omega
                    · have e4 : decide (0 < (r : Int)) = false := decide_eq_false (by omega)
                      have HV : Hid (cls (lv (T.take (k + 1))) (10 ^ (k + 1)) = r) := Lib.hid (by rw [HST.out, if_neg (by omega), if_neg b5, if_neg (by omega)])
                      go_wp2_with fail
                      go_round
                      case rel => exact ⟨k + 1, hlt, by go_num, by rw [HV.out] <;> rfl⟩
                      case measure => simp [intOf] <;> omega
            · obtain rfl : k = B.size := by omega
              have d1 : decide ((B.size : Int) < (B.size : Int)) = false := decide_eq_false (by omega)
              go_wp2_with fail
              obtain ⟨X, hX⟩ : ∃ X, X = lv (T.drop B.size) := ⟨_, rfl⟩
              rw [← hX, ← HRR.out] at HRS
              have HXD := Lib.hid hX
              clear hX d1 hlt hkB HRR
              go_loop [15, 16, 17] (fun n ov i => ∃ (k nn : Nat) (b : Bool), B.size ≤ k ∧ k ≤ T.length ∧ i = .int .i64 ((k : Int) - 1) ∧ ov = .bool b ∧ n = .int .u64 (nn : Int) ∧ nn < 18446744073709551616 ∧ (b = true → 9223372036854775808 < lv (T.drop k)) ∧ (b = false → nn = lv (T.drop k) ∧ nn ≤ 9223372036854775809)) (fun _ _ i => (intOf i + 1).toNat)
              case atStart => exact ⟨T.length, 0, false, by omega, Nat.le_refl _, by first | rfl | go_num, rfl, rfl, by omega, (fun h => by cases h), fun _ => ⟨by rw [List.drop_length]; rfl, by omega⟩⟩
              case round =>
                obtain ⟨k, nn, b, hkB, hkT, rfl, rfl, rfl, hnn, hb1, hb2⟩ := hrel
                have HB1 := Lib.hid hb1; have HB2b := Lib.hid hb2
                clear hb1 hb2
                by_cases hgt : B.size < k
                · obtain ⟨j, rfl⟩ : ∃ j, k = j + 1 := ⟨k - 1, by omega⟩
                  have e : ((j + 1 : Nat) : Int) - 1 = (j : Int) := by omega
                  rw [e]
                  clear e
                  have d1 : decide ((B.size : Int) ≤ (j : Int)) = true := decide_eq_true (by omega)
                  obtain ⟨d, hd⟩ : ∃ d, T[j]? = some d := ⟨_, List.getElem?_eq_getElem (by omega)⟩
                  have c1 := HC.out j d hd
                  have hd10 : d < 10 := HDT.out d (List.mem_of_getElem? hd)
                  have HDR := Lib.hid (lv_drop hd)
                  clear hd
                  cases b with
                  | true =>
                    have hbig := HB1.out rfl
                    obtain ⟨n1, hn1, hn1b⟩ : ∃ n1 : Nat, IntKind.u64.wrap (10 * (nn : Int)) = (n1 : Int) ∧ n1 < 18446744073709551616 := by
                      rw [IntKind.wrap_u64]; exact ⟨(10 * nn) % 18446744073709551616, by omega, by omega⟩
                    obtain ⟨n2, hn2, hn2b⟩ : ∃ n2 : Nat, IntKind.u64.wrap ((n1 : Int) + (d : Int)) = (n2 : Int) ∧ n2 < 18446744073709551616 := by
                      rw [IntKind.wrap_u64]; exact ⟨(n1 + d) % 18446744073709551616, by omega, by omega⟩
                    go_wp2_with fail
                    go_round
                    case rel => exact ⟨j, n2, true, by omega, by omega, by go_num, rfl, rfl, hn2b, fun _ => by rw [HDR.out]; omega, fun h => by cases h⟩
                    case measure => simp [intOf] <;> omega
                  | false =>
                    obtain ⟨hn, hn63⟩ := HB2b.out rfl
                    by_cases hov : 922337203685477580 < nn
                    · have d3 : decide (922337203685477580 < (nn : Int)) = true := decide_eq_true (by omega)
                      obtain ⟨n1, hn1, hn1b⟩ : ∃ n1 : Nat, IntKind.u64.wrap (10 * (nn : Int)) = (n1 : Int) ∧ n1 < 18446744073709551616 := by
                        rw [IntKind.wrap_u64]; exact ⟨(10 * nn) % 18446744073709551616, by omega, by omega⟩
                      obtain ⟨n2, hn2, hn2b⟩ : ∃ n2 : Nat, IntKind.u64.wrap ((n1 : Int) + (d : Int)) = (n2 : Int) ∧ n2 < 18446744073709551616 := by
                        rw [IntKind.wrap_u64]; exact ⟨(n1 + d) % 18446744073709551616, by omega, by omega⟩
                      have HN := Lib.hid hn
                      clear hn
                      go_wp2_with fail
                      go_round
                      case rel => exact ⟨j, n2, true, by omega, by omega, by go_num, rfl, rfl, hn2b, fun _ => by rw [HDR.out, ← HN.out]; omega, fun h => by cases h⟩
                      case measure => simp [intOf] <;> omega
                    · have d3 : decide (922337203685477580 < (nn : Int)) = false := decide_eq_false (by omega)
                      have hn1 : IntKind.u64.wrap (10 * (nn : Int)) = 10 * (nn : Int) := by rw [IntKind.wrap_u64]; omega
                      obtain ⟨n2, hn2⟩ : ∃ n2, n2 = 10 * nn + d := ⟨_, rfl⟩
                      have hs2 : 10 * (nn : Int) + (d : Int) = (n2 : Int) := by omega
                      have hn2b : n2 ≤ 9223372036854775809 := by omega
                      have hw2 : IntKind.u64.wrap ((n2 : Int)) = (n2 : Int) := by rw [IntKind.wrap_u64]; omega
                      have HN := Lib.hid hn
                      have HN2 := Lib.hid hn2
                      clear hn hn2
                      go_wp2_with fail
                      go_round
                      case rel => exact ⟨j, n2, false, by omega, by omega, by go_num, rfl, rfl, by omega, (fun h => by cases h), fun _ => ⟨by rw [HDR.out, ← HN.out, HN2.out]; omega, hn2b⟩⟩
                      case measure => simp [intOf] <;> omega
                · obtain rfl : k = B.size := by omega
                  have d1 : decide ((B.size : Int) ≤ (B.size : Int) - 1) = false := decide_eq_false (by omega)
                  rw [← HXD.out] at HB1 HB2b
                  have HFIN : Hid (∀ n : Nat, upTo X r = n → Value.tuple #[.int .i64 (sat (if bl = true then -(n : Int) else (n : Int))), .bool (satB (if bl = true then -(n : Int) else (n : Int))), .int .i64 0] = R) := Lib.hid (by
                    obtain ⟨n0, h0, h1, h2, h3, h4⟩ := HRS.out
                    intro n hn
                    rw [h0] at hn
                    subst hn
                    rw [HR.out, HX.out]
                    cases bl with
                    | true => simp only [if_true]; rw [h3, h4]
                    | false => simp only [Bool.false_eq_true, if_false]; rw [h1, h2])
                  cases b with
                  | true =>
                    have HU := Lib.hid (HFIN.out _ (upTo_over (HB1.out rfl)))
                    obtain ⟨da, hda⟩ : ∃ da, da = 9223372036854775809 % 4294967296 := ⟨_, rfl⟩
                    obtain ⟨db, hdb⟩ : ∃ db, db = 9223372036854775809 / 4294967296 := ⟨_, rfl⟩
                    have HO : Hid (∀ W, Calls Tryd.prog 34 #[.int .u64 9223372036854775809, .int .i64 0] W fun e w' => e = .returned (.agg #[.int .u64 (da : Int), .int .u64 (db : Int), .int .u64 0, .int .u64 0, .int .u64 0, .int .u64 0]) ∧ Below W.heap.size W w') := Lib.hid (by rw [hda, hdb]; exact One64_any 9223372036854775809 (by omega))
                    have HCL := Lib.hid (ClampR_any da db (by omega) (by omega) bl)
                    rw [show db * 4294967296 + da = 9223372036854775809 by omega] at HCL
                    obtain ⟨xv, hxv⟩ : ∃ xv, xv = sat (if bl = true then -((9223372036854775809 : Nat) : Int) else ((9223372036854775809 : Nat) : Int)) := ⟨_, rfl⟩
                    obtain ⟨yv, hyv⟩ : ∃ yv, yv = satB (if bl = true then -((9223372036854775809 : Nat) : Int) else ((9223372036854775809 : Nat) : Int)) := ⟨_, rfl⟩
                    rw [← hxv, ← hyv] at HU HCL
                    clear hda hdb hxv hyv
                    clear HB1 HB2b HFIN
                    go_wp2_with fail
                    refine (HO.out _).mono ?_
                    rintro e w3 ⟨rfl, hb3⟩
                    have HB3 := Lib.hid (HB2.out.trans (hb3.mono HB2.out.size))
                    clear hb3
                    go_wp2_with fail
                    refine (HCL.out _).mono ?_
                    rintro e w4 ⟨rfl, hb4⟩
                    have HB4 := Lib.hid (HB3.out.trans (hb4.mono HB3.out.size))
                    clear hb4
                    go_wp2_with fail
                    go_ret3
                    exact ⟨by rw [← HU.out] <;> rfl, HB4.out⟩
                  | false =>
                    obtain ⟨hn, hn63⟩ := HB2b.out rfl
                    subst hn
                    by_cases hov : 9223372036854775808 < nn
                    · have HU := Lib.hid (HFIN.out _ (upTo_over hov))
                      have d3 : decide (9223372036854775808 < (nn : Int)) = true := decide_eq_true (by omega)
                      obtain ⟨da, hda⟩ : ∃ da, da = 9223372036854775809 % 4294967296 := ⟨_, rfl⟩
                      obtain ⟨db, hdb⟩ : ∃ db, db = 9223372036854775809 / 4294967296 := ⟨_, rfl⟩
                      have HO : Hid (∀ W, Calls Tryd.prog 34 #[.int .u64 9223372036854775809, .int .i64 0] W fun e w' => e = .returned (.agg #[.int .u64 (da : Int), .int .u64 (db : Int), .int .u64 0, .int .u64 0, .int .u64 0, .int .u64 0]) ∧ Below W.heap.size W w') := Lib.hid (by rw [hda, hdb]; exact One64_any 9223372036854775809 (by omega))
                      have HCL := Lib.hid (ClampR_any da db (by omega) (by omega) bl)
                      rw [show db * 4294967296 + da = 9223372036854775809 by omega] at HCL
                      obtain ⟨xv, hxv⟩ : ∃ xv, xv = sat (if bl = true then -((9223372036854775809 : Nat) : Int) else ((9223372036854775809 : Nat) : Int)) := ⟨_, rfl⟩
                      obtain ⟨yv, hyv⟩ : ∃ yv, yv = satB (if bl = true then -((9223372036854775809 : Nat) : Int) else ((9223372036854775809 : Nat) : Int)) := ⟨_, rfl⟩
                      rw [← hxv, ← hyv] at HU HCL
                      clear hda hdb hxv hyv
                      clear HB1 HB2b HFIN
                      go_wp2_with fail
                      refine (HO.out _).mono ?_
                      rintro e w3 ⟨rfl, hb3⟩
                      have HB3 := Lib.hid (HB2.out.trans (hb3.mono HB2.out.size))
                      clear hb3
                      go_wp2_with fail
                      refine (HCL.out _).mono ?_
                      rintro e w4 ⟨rfl, hb4⟩
                      have HB4 := Lib.hid (HB3.out.trans (hb4.mono HB3.out.size))
                      clear hb4
                      go_wp2_with fail
                      go_ret3
                      exact ⟨by rw [← HU.out] <;> rfl, HB4.out⟩
                    · have d3 : decide (9223372036854775808 < (nn : Int)) = false := decide_eq_false (by omega)
                      obtain ⟨Y, hY⟩ : ∃ Y, Y = nn + 1 := ⟨_, rfl⟩
                      have m1 : (nn : Int) + 1 = (Y : Int) := by omega
                      have hY2 : Y ≤ 9223372036854775809 := by omega
                      rcases (show r = 3 ∨ r = 2 ∨ r = 1 ∨ r = 0 by omega) with rfl | rfl | rfl | rfl
                      · have HU := Lib.hid (HFIN.out _ (upTo_up hov (.inl rfl)))
                        rw [← hY] at HU
                        clear hY
                        obtain ⟨da, hda⟩ : ∃ da, da = Y % 4294967296 := ⟨_, rfl⟩
                        obtain ⟨db, hdb⟩ : ∃ db, db = Y / 4294967296 := ⟨_, rfl⟩
                        have HO : Hid (∀ W, Calls Tryd.prog 34 #[.int .u64 (Y : Int), .int .i64 0] W fun e w' => e = .returned (.agg #[.int .u64 (da : Int), .int .u64 (db : Int), .int .u64 0, .int .u64 0, .int .u64 0, .int .u64 0]) ∧ Below W.heap.size W w') := Lib.hid (by rw [hda, hdb]; exact One64_any Y (by omega))
                        have HCL := Lib.hid (ClampR_any da db (by omega) (by omega) bl)
                        rw [show db * 4294967296 + da = Y by omega] at HCL
                        obtain ⟨xv, hxv⟩ : ∃ xv, xv = sat (if bl = true then -((Y : Nat) : Int) else ((Y : Nat) : Int)) := ⟨_, rfl⟩
                        obtain ⟨yv, hyv⟩ : ∃ yv, yv = satB (if bl = true then -((Y : Nat) : Int) else ((Y : Nat) : Int)) := ⟨_, rfl⟩
                        rw [← hxv, ← hyv] at HU HCL
                        clear hda hdb hxv hyv
                        clear HB1 HB2b HFIN
                        go_wp2_with fail
                        refine (HO.out _).mono ?_
                        rintro e w3 ⟨rfl, hb3⟩
                        have HB3 := Lib.hid (HB2.out.trans (hb3.mono HB2.out.size))
                        clear hb3
                        go_wp2_with fail
                        refine (HCL.out _).mono ?_
                        rintro e w4 ⟨rfl, hb4⟩
                        have HB4 := Lib.hid (HB3.out.trans (hb4.mono HB3.out.size))
                        clear hb4
                        go_wp2_with fail
                        go_ret3
                        exact ⟨by rw [← HU.out] <;> rfl, HB4.out⟩
                      · by_cases odd : nn % 2 = 1
                        · have HU := Lib.hid (HFIN.out _ (upTo_up hov (.inr ⟨rfl, odd⟩)))
                          rw [← hY] at HU
                          have e4 : (nn : Int) % 2 = 1 := by omega
                          clear hY
                          obtain ⟨da, hda⟩ : ∃ da, da = Y % 4294967296 := ⟨_, rfl⟩
                          obtain ⟨db, hdb⟩ : ∃ db, db = Y / 4294967296 := ⟨_, rfl⟩
                          have HO : Hid (∀ W, Calls Tryd.prog 34 #[.int .u64 (Y : Int), .int .i64 0] W fun e w' => e = .returned (.agg #[.int .u64 (da : Int), .int .u64 (db : Int), .int .u64 0, .int .u64 0, .int .u64 0, .int .u64 0]) ∧ Below W.heap.size W w') := Lib.hid (by rw [hda, hdb]; exact One64_any Y (by omega))
                          have HCL := Lib.hid (ClampR_any da db (by omega) (by omega) bl)
                          rw [show db * 4294967296 + da = Y by omega] at HCL
                          obtain ⟨xv, hxv⟩ : ∃ xv, xv = sat (if bl = true then -((Y : Nat) : Int) else ((Y : Nat) : Int)) := ⟨_, rfl⟩
                          obtain ⟨yv, hyv⟩ : ∃ yv, yv = satB (if bl = true then -((Y : Nat) : Int) else ((Y : Nat) : Int)) := ⟨_, rfl⟩
                          rw [← hxv, ← hyv] at HU HCL
                          clear hda hdb hxv hyv
                          clear HB1 HB2b HFIN
                          go_wp2_with fail
                          refine (HO.out _).mono ?_
                          rintro e w3 ⟨rfl, hb3⟩
                          have HB3 := Lib.hid (HB2.out.trans (hb3.mono HB2.out.size))
                          clear hb3
                          go_wp2_with fail
                          refine (HCL.out _).mono ?_
                          rintro e w4 ⟨rfl, hb4⟩
                          have HB4 := Lib.hid (HB3.out.trans (hb4.mono HB3.out.size))
                          clear hb4
                          go_wp2_with fail
                          go_ret3
                          exact ⟨by rw [← HU.out] <;> rfl, HB4.out⟩
                        · have HU := Lib.hid (HFIN.out _ (upTo_no hov (by omega)))
                          have e4 : (nn : Int) % 2 = 0 := by omega
                          clear hY m1
                          obtain ⟨da, hda⟩ : ∃ da, da = nn % 4294967296 := ⟨_, rfl⟩
                          obtain ⟨db, hdb⟩ : ∃ db, db = nn / 4294967296 := ⟨_, rfl⟩
                          have HO : Hid (∀ W, Calls Tryd.prog 34 #[.int .u64 (nn : Int), .int .i64 0] W fun e w' => e = .returned (.agg #[.int .u64 (da : Int), .int .u64 (db : Int), .int .u64 0, .int .u64 0, .int .u64 0, .int .u64 0]) ∧ Below W.heap.size W w') := Lib.hid (by rw [hda, hdb]; exact One64_any nn (by omega))
                          have HCL := Lib.hid (ClampR_any da db (by omega) (by omega) bl)
                          rw [show db * 4294967296 + da = nn by omega] at HCL
                          obtain ⟨xv, hxv⟩ : ∃ xv, xv = sat (if bl = true then -((nn : Nat) : Int) else ((nn : Nat) : Int)) := ⟨_, rfl⟩
                          obtain ⟨yv, hyv⟩ : ∃ yv, yv = satB (if bl = true then -((nn : Nat) : Int) else ((nn : Nat) : Int)) := ⟨_, rfl⟩
                          rw [← hxv, ← hyv] at HU HCL
                          clear hda hdb hxv hyv
                          clear HB1 HB2b HFIN
                          go_wp2_with fail
                          refine (HO.out _).mono ?_
                          rintro e w3 ⟨rfl, hb3⟩
                          have HB3 := Lib.hid (HB2.out.trans (hb3.mono HB2.out.size))
                          clear hb3
                          go_wp2_with fail
                          refine (HCL.out _).mono ?_
                          rintro e w4 ⟨rfl, hb4⟩
                          have HB4 := Lib.hid (HB3.out.trans (hb4.mono HB3.out.size))
                          clear hb4
                          go_wp2_with fail
                          go_ret3
                          exact ⟨by rw [← HU.out] <;> rfl, HB4.out⟩
                      · have HU := Lib.hid (HFIN.out _ (upTo_no hov (by omega)))
                        clear hY m1
                        obtain ⟨da, hda⟩ : ∃ da, da = nn % 4294967296 := ⟨_, rfl⟩
                        obtain ⟨db, hdb⟩ : ∃ db, db = nn / 4294967296 := ⟨_, rfl⟩
                        have HO : Hid (∀ W, Calls Tryd.prog 34 #[.int .u64 (nn : Int), .int .i64 0] W fun e w' => e = .returned (.agg #[.int .u64 (da : Int), .int .u64 (db : Int), .int .u64 0, .int .u64 0, .int .u64 0, .int .u64 0]) ∧ Below W.heap.size W w') := Lib.hid (by rw [hda, hdb]; exact One64_any nn (by omega))
                        have HCL := Lib.hid (ClampR_any da db (by omega) (by omega) bl)
                        rw [show db * 4294967296 + da = nn by omega] at HCL
                        obtain ⟨xv, hxv⟩ : ∃ xv, xv = sat (if bl = true then -((nn : Nat) : Int) else ((nn : Nat) : Int)) := ⟨_, rfl⟩
                        obtain ⟨yv, hyv⟩ : ∃ yv, yv = satB (if bl = true then -((nn : Nat) : Int) else ((nn : Nat) : Int)) := ⟨_, rfl⟩
                        rw [← hxv, ← hyv] at HU HCL
                        clear hda hdb hxv hyv
                        clear HB1 HB2b HFIN
                        go_wp2_with fail
                        refine (HO.out _).mono ?_
                        rintro e w3 ⟨rfl, hb3⟩
                        have HB3 := Lib.hid (HB2.out.trans (hb3.mono HB2.out.size))
                        clear hb3
                        go_wp2_with fail
                        refine (HCL.out _).mono ?_
                        rintro e w4 ⟨rfl, hb4⟩
                        have HB4 := Lib.hid (HB3.out.trans (hb4.mono HB3.out.size))
                        clear hb4
                        go_wp2_with fail
                        go_ret3
                        exact ⟨by rw [← HU.out] <;> rfl, HB4.out⟩
                      · have HU := Lib.hid (HFIN.out _ (upTo_no hov (by omega)))
                        clear hY m1
                        obtain ⟨da, hda⟩ : ∃ da, da = nn % 4294967296 := ⟨_, rfl⟩
                        obtain ⟨db, hdb⟩ : ∃ db, db = nn / 4294967296 := ⟨_, rfl⟩
                        have HO : Hid (∀ W, Calls Tryd.prog 34 #[.int .u64 (nn : Int), .int .i64 0] W fun e w' => e = .returned (.agg #[.int .u64 (da : Int), .int .u64 (db : Int), .int .u64 0, .int .u64 0, .int .u64 0, .int .u64 0]) ∧ Below W.heap.size W w') := Lib.hid (by rw [hda, hdb]; exact One64_any nn (by omega))
                        have HCL := Lib.hid (ClampR_any da db (by omega) (by omega) bl)
                        rw [show db * 4294967296 + da = nn by omega] at HCL
                        obtain ⟨xv, hxv⟩ : ∃ xv, xv = sat (if bl = true then -((nn : Nat) : Int) else ((nn : Nat) : Int)) := ⟨_, rfl⟩
                        obtain ⟨yv, hyv⟩ : ∃ yv, yv = satB (if bl = true then -((nn : Nat) : Int) else ((nn : Nat) : Int)) := ⟨_, rfl⟩
                        rw [← hxv, ← hyv] at HU HCL
                        clear hda hdb hxv hyv
                        clear HB1 HB2b HFIN
                        go_wp2_with fail
                        refine (HO.out _).mono ?_
                        rintro e w3 ⟨rfl, hb3⟩
                        have HB3 := Lib.hid (HB2.out.trans (hb3.mono HB2.out.size))
                        clear hb3
                        go_wp2_with fail
                        refine (HCL.out _).mono ?_
                        rintro e w4 ⟨rfl, hb4⟩
                        have HB4 := Lib.hid (HB3.out.trans (hb4.mono HB3.out.size))
                        clear hb4
                        go_wp2_with fail
                        go_ret3
                        exact ⟨by rw [← HU.out] <;> rfl, HB4.out⟩
        · have e : ((j + 1 : Nat) : Int) - 1 = (j : Int) := by omega
          rw [e]
          clear e
          have hj : j < S.size := by omega
          have hg := lget S j hj
          have hdig := isDig_iff.1 (HDS.out _ (List.mem_of_getElem? hg))
          obtain ⟨d, hd⟩ : ∃ d, d = S[j].toNat - 48 := ⟨_, rfl⟩
          have HRV := Lib.hid (rev_take hg)
          rw [← hd] at HRV
          have HT1 : Hid (((S[j].toNat : Int) - 48) = (d : Int)) := Lib.hid (by omega)
          have hd10 : d < 10 := by omega
          obtain ⟨gp, cp, wp, hrp, hop, hbp⟩ := pushU_run hown HBL.out.size (by omega) d ((S[j].toNat : Int) - 48) HT1.out
          have HOP := Lib.hid hop; have HBP := Lib.hid (HBL.out.trans hbp)
          have hds1 := hdig.1
          have hds2 := hdig.2
          clear hop hbp hown hg hd hdig
          go_wp2_with (at_builtin; refine wpList_append_run rfl rfl (s := .tmp 47) (x := .tmp 53) (t := 71) rfl rfl hrp ?_)
          go_roundw
          case rel =>
            refine ⟨o ++ [d], j, HOP.out, by go_num, by omega, by rw [List.length_append]; simp only [List.length_cons, List.length_nil]; omega, ?_, HBP.out⟩
            have := HTX.out
            rw [HRV.out] at this
            rw [List.append_assoc]; exact this
          case measure => simp [intOf] <;> omega
theorem rParse_any (s : ByteArray) (hs : s.size ≤ 100000) (w : World) : Calls Tryd.prog 14 #[.string s] w fun e w' => e = .returned (parseT s.data.toList) ∧ Below w.heap.size w w' := by
  rcases h : partsL s.data.toList with _ | ⟨below, A, B⟩
  · exact rParse_none s hs h w
  · exact rParse_some s hs below A B h w
end Go.Proofs.YtfpmchhpejncpaaDoor
