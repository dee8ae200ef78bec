/- Digits: Int, of the document. -/
import Derived.Test.YtfpmchhpejncpaaDoorZc
import Derived.Test.YtfpmchhpejncpaaDoorZa
namespace Go.Proofs.YtfpmchhpejncpaaDoor
open Go.RowKit
set_option maxRecDepth 100000
set_option linter.unusedVariables false
theorem val_take_mono {l : List UInt8} (h : ∀ b ∈ l, isDig b = true) (k : Nat) (hk : k < l.length) : 10 * val (digs (l.take k)) ≤ val (digs l) := by
  have e : digs l = digs (l.take k) ++ digs (l.drop k) := by rw [← digs_app2, List.take_append_drop]
  rw [e, val_append, digs_len, List.length_drop]
  obtain ⟨m, hm⟩ : ∃ m, l.length - k = m + 1 := ⟨l.length - k - 1, by omega⟩
  rw [hm, Nat.pow_succ]
  have h1 : 1 ≤ 10 ^ m := Nat.pow_pos (by omega)
  have h2 : val (digs (l.take k)) * 10 ≤ val (digs (l.take k)) * (10 ^ m * 10) := Nat.mul_le_mul_left _ (by omega)
  omega
theorem join_dash {below : Bool} {A : List UInt8} (h : ∀ b ∈ A, isDig b = true) : joinL below A [] = [45, 48] ↔ (below = true ∧ A = [48]) := by
  unfold joinL joinR
  cases below with
  | true => simp
  | false =>
    simp only [Bool.false_eq_true, if_false, List.nil_append, if_true, List.append_nil, false_and, iff_false]
    rintro rfl
    exact absurd (h 45 (by simp)) (by decide)
theorem fits_sat {T : Int} (h : fits T) : sat T = T ∧ satB T = false := by
  have h1 := h.1
  have h2 := h.2
  exact ⟨by unfold sat; rw [if_neg (by omega), if_neg (by omega)], decide_eq_false (by omega)⟩
theorem nofits_sat {T : Int} (h : ¬ fits T) : satB T = true := decide_eq_true (by unfold fits at h; omega)
set_option maxHeartbeats 16000000 in
theorem rInt_any (s : ByteArray) (hs : s.size ≤ 100000) (w : World) : Calls Tryd.prog 17 #[.string s] w fun e w' => e = .returned (intT s.data.toList) ∧ Below w.heap.size w w' := by
  have HP := Lib.hid (Parts_any s hs w)
  obtain ⟨R, hR⟩ : ∃ R, R = intT s.data.toList := ⟨_, rfl⟩
  rw [← hR]
  have HR := Lib.hid hR
  clear hR
  rcases hp : partsL s.data.toList with _ | ⟨below, AL, BL⟩
  · rw [hp] at HP
    have HX := Lib.hid (intT_none hp)
    clear hp
    go_enter Tryd.func17, Tryd.ntmps17
    go_wp2_with fail
    refine HP.out.mono ?_
    rintro e w1 ⟨hw1, bl, ok, A, B, rfl, rfl⟩
    obtain rfl : w = w1 := hw1.symm
    clear hw1
    go_wp2_with fail
    go_ret2
    exact ⟨by rw [HR.out, HX.out] <;> rfl, Below.refl _ _⟩
  · rw [hp] at HP
    obtain ⟨hj, hok, hal⟩ := partsL_inv hp
    have hda := (partsL_dig hp).1
    have HDA := Lib.hid hda
    have HJ := Lib.hid hj
    have HPL := Lib.hid hp
    clear hp hj hok hal hda
    go_enter Tryd.func17, Tryd.ntmps17
    go_wp2_with fail
    refine HP.out.mono ?_
    rintro e w1 ⟨hw1, bl, ok, A, B, rfl, rfl, rfl, hA, hB⟩
    obtain rfl : w = w1 := hw1.symm
    clear hw1 HP
    have HA := Lib.hid hA
    have hAl := lsize A
    have HAL := Lib.hid (show A.size = AL.length by rw [hAl, hA])
    clear hA hAl
    have hA100 : A.size ≤ 100000 := by
      have h1 := congrArg List.length HJ.out
      rw [joinL_len, ← lsize] at h1
      have h2 := HAL.out
      omega
    by_cases hB0 : B = ⟨#[]⟩
    · subst hB0
      have hBL : BL = [] := hB.symm
      subst hBL
      clear hB
      have HSD : Hid (s = ⟨#[45, 48]⟩ ↔ (bl = true ∧ AL = [48])) := Lib.hid (by
        rw [← join_dash HDA.out, ← HJ.out]
        exact ⟨fun e => by rw [e], fun e => bytes_inj e⟩)
      by_cases hd : s = ⟨#[45, 48]⟩
      · have HX := Lib.hid (intT_bad HPL.out (.inr (HSD.out.1 hd)))
        subst hd
        go_wp2_with fail
        go_ret2
        exact ⟨by rw [HR.out, HX.out] <;> rfl, Below.refl _ _⟩
      · have hna : ¬ (bl = true ∧ AL = [48]) := fun h => hd (HSD.out.2 h)
        have d6 : s.toList ≠ [45, 48] := fun e => hd (bytes_inj (by rw [← ByteArray.toList_eq, e]))
        have d7 : (s.toList == [45, 48]) = false := by simpa using d6
        have HFI := Lib.hid (fun h => intT_fit HPL.out hna h)
        have HBI := Lib.hid (fun h => intT_big HPL.out hna h)
        clear d6 hna hd HSD
        go_wp2_with fail
        clear d7
        go_loop [8, 9] (fun n i => ∃ k : Nat, k ≤ A.size ∧ i = .int .i64 (k : Int) ∧ n = .int .u64 (val (digs (AL.take k)) : Nat) ∧ val (digs (AL.take k)) ≤ 9223372036854775809) (fun _ i => A.size - (intOf i).toNat)
        case atStart => exact ⟨0, Nat.zero_le _, rfl, by simp [digs, val], by simp [digs, val]⟩
        case round =>
          obtain ⟨k, hk, rfl, rfl, hv⟩ := hrel
          obtain ⟨n, hn⟩ : ∃ n, n = val (digs (AL.take k)) := ⟨_, rfl⟩
          rw [← hn] at hv ⊢
          have HN := Lib.hid hn
          clear hn
          by_cases hlt : k < A.size
          · have d1 : decide ((k : Int) < (A.size : Int)) = true := decide_eq_true (by omega)
            by_cases hbig : 922337203685477580 < n
            · have d2 : decide (922337203685477580 < (n : Int)) = true := decide_eq_true (by omega)
              have hno : ¬ fits (wval bl AL) := by
                have := val_take_mono HDA.out k (by have := HAL.out; omega)
                rw [← HN.out] at this
                unfold fits wval
                cases bl with
                | true => simp only [if_true]; omega
                | false => simp only [Bool.false_eq_true, if_false]; omega
              have HX := Lib.hid (HBI.out hno)
              clear hno
              go_wp2_with fail
              go_ret2
              exact ⟨by rw [HR.out, HX.out] <;> rfl, Below.refl _ _⟩
            · have d2 : decide (922337203685477580 < (n : Int)) = false := decide_eq_false (by omega)
              have hg := lget A k hlt
              rw [HA.out] at hg
              have hdig := isDig_iff.1 (HDA.out _ (List.mem_of_getElem? hg))
              have g1 := hdig.1
              have g2 := hdig.2
              obtain ⟨d, hd⟩ : ∃ d, d = A[k].toNat - 48 := ⟨_, rfl⟩
              have HST := Lib.hid (digs_step hg)
              rw [← hd] at HST
              have HT1 : Hid (((A[k].toNat : Int) - 48) = (d : Int)) := Lib.hid (by omega)
              have hd10 : d < 10 := by omega
              obtain ⟨m, hm⟩ : ∃ m, m = 10 * n + d := ⟨_, rfl⟩
              have HV : Hid (val (digs (AL.take (k + 1))) = m) := Lib.hid (by rw [HST.out, val_app, ← HN.out, hm])
              have w1 : IntKind.u64.wrap (10 * (n : Int)) = 10 * (n : Int) := by rw [IntKind.wrap_u64]; omega
              have hm2 : m ≤ 9223372036854775809 := by omega
              have HM : Hid (10 * (n : Int) + ((A[k].toNat : Int) - 48) = (m : Int)) := Lib.hid (by omega)
              clear hg hdig hd hm
              go_wp2_with fail
              go_round
              case rel => exact ⟨k + 1, hlt, by go_num, by rw [HV.out]; first | rfl | rw [HM.out], by rw [HV.out]; exact hm2⟩
              case measure => simp [intOf] <;> omega
          · obtain rfl : k = A.size := by omega
            have d1 : decide ((A.size : Int) < (A.size : Int)) = false := decide_eq_false (by omega)
            have HNV : Hid (n = val (digs AL)) := Lib.hid (by rw [HN.out, HAL.out, List.take_length])
            obtain ⟨T, hT⟩ : ∃ T, T = wval bl AL := ⟨_, rfl⟩
            have HTW : Hid ((if bl = true then -(n : Int) else (n : Int)) = T) := Lib.hid (by rw [hT, HNV.out]; rfl)
            rw [← hT] at HFI HBI
            clear hT
            obtain ⟨da, hda⟩ : ∃ da, da = n % 4294967296 := ⟨_, rfl⟩
            obtain ⟨db, hdb⟩ : ∃ db, db = n / 4294967296 := ⟨_, rfl⟩
            have HO : Hid (∀ W, Calls Tryd.prog 34 #[.int .u64 (n : Int), .int .i64 0] W fun e w' => e = .returned (.agg #[.int .u64 (da : Int), .int .u64 (db : Int), .int .u64 0, .int .u64 0, .int .u64 0, .int .u64 0]) ∧ Below W.heap.size W w') := Lib.hid (by rw [hda, hdb]; exact One64_any n (by omega))
            have HCL := Lib.hid (ClampR_any da db (by omega) (by omega) bl)
            rw [show db * 4294967296 + da = n by omega] at HCL
            simp only [HTW.out] at HCL
            clear hda hdb
            by_cases hf : fits T
            · have HX := Lib.hid (HFI.out hf)
              have hsat := fits_sat hf
              rw [hsat.1, hsat.2] at HCL
              clear hsat hf
              go_wp2_with fail
              refine (HO.out _).mono ?_
              rintro e w3 ⟨rfl, hb3⟩
              have HB3 := Lib.hid hb3
              clear hb3
              go_wp2_with fail
              refine (HCL.out _).mono ?_
              rintro e w4 ⟨rfl, hb4⟩
              have HB4 := Lib.hid (HB3.out.trans (hb4.mono HB3.out.size))
              clear hb4
              go_wp2_with fail
              go_ret2
              exact ⟨by rw [HR.out, HX.out] <;> rfl, HB4.out⟩
            · have HX := Lib.hid (HBI.out hf)
              have hsat := nofits_sat hf
              rw [hsat] at HCL
              clear hsat hf
              go_wp2_with fail
              refine (HO.out _).mono ?_
              rintro e w3 ⟨rfl, hb3⟩
              have HB3 := Lib.hid hb3
              clear hb3
              go_wp2_with fail
              refine (HCL.out _).mono ?_
              rintro e w4 ⟨rfl, hb4⟩
              have HB4 := Lib.hid (HB3.out.trans (hb4.mono HB3.out.size))
              clear hb4
              go_wp2_with fail
              go_ret2
              exact ⟨by rw [HR.out, HX.out] <;> rfl, HB4.out⟩
    · have hBL : BL ≠ [] := fun e => hB0 (bytes_inj (by rw [hB, e]))
      have d6 : B.toList.isEmpty = false := by
        rw [ByteArray.toList_eq, hB]
        cases BL with
        | nil => exact absurd rfl hBL
        | cons a r => rfl
      have HX := Lib.hid (intT_bad HPL.out (.inl hBL))
      clear hB hBL hB0
      go_wp2_with fail
      go_ret2
      exact ⟨by rw [HR.out, HX.out] <;> rfl, Below.refl _ _⟩
end Go.Proofs.YtfpmchhpejncpaaDoor
