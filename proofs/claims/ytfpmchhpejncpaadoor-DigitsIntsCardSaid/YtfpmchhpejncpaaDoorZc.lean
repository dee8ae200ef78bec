/- Digits: Int, of the program. -/
import Derived.Test.YtfpmchhpejncpaaDoorZb
namespace Go.Proofs.YtfpmchhpejncpaaDoor
open Go.RowKit
set_option maxRecDepth 100000
set_option linter.unusedVariables false
/-- The error of what is too great lies where it was laid. -/
def Ran (w : World) (tp : TypeId) (p : Value) : Prop := w.var? Tryd.prog "strconv.ErrRange" = some #[.iface tp p]
theorem Ran.below {w w' : World} {tp : TypeId} {p : Value} (h : Ran w tp p) {B : Nat} (hb : Below B w w') (hB : w.heap.size ≤ B) : Ran w' tp p := by
  have hg : Tryd.prog.globalNamed "strconv.ErrRange" = some 2 := by kernel_rfl
  have hc := World.var?_cell hg h 0
  have hlt := World.block_lt_of_cell? _ _ hc
  exact var?_below hb hg (Nat.lt_of_lt_of_le hlt hB) h
set_option maxHeartbeats 16000000 in
theorem Int_any (s : ByteArray) (hs : s.size ≤ 100000) (tp : TypeId) (p : Value) (w : World) (hr : Ran w tp p) : Calls Tryd.prog 16 #[.string s] w fun e w' => e = .returned (intT s.data.toList) ∧ Below w.heap.size w w' := by
  have HP := Lib.hid (apart_any s hs w)
  obtain ⟨R, hR⟩ : ∃ R, R = intT s.data.toList := ⟨_, rfl⟩
  rw [← hR]
  have HR := Lib.hid hR
  have HRA := Lib.hid hr
  clear hR hr
  rcases hp : partsL s.data.toList with _ | ⟨below, AL, BL⟩
  · rw [hp] at HP
    have HX := Lib.hid (intT_none hp)
    clear hp
    go_enter Tryd.func16, Tryd.ntmps16
    go_wp2_with fail
    refine HP.out.mono ?_
    rintro e w1 ⟨hb, bl, ok, A, B, rfl, rfl⟩
    have HB := Lib.hid hb
    clear hb
    go_wp2_with fail
    go_ret2
    exact ⟨by rw [HR.out, HX.out] <;> rfl, HB.out.alloc HB.out.size _⟩
  · rw [hp] at HP
    obtain ⟨hj, hok, hal⟩ := partsL_inv hp
    have hda := (partsL_dig hp).1
    have hne := allL_ne (headOk_all hok)
    have HPI := Lib.hid (parseInt_join below hda hne)
    have HJ := Lib.hid hj
    have HPL := Lib.hid hp
    clear hp hj hok hal hda hne
    go_enter Tryd.func16, Tryd.ntmps16
    go_wp2_with fail
    refine HP.out.mono ?_
    rintro e w1 ⟨hb, bl, ok, A, B, rfl, rfl, rfl, hA, hB⟩
    have HB := Lib.hid hb
    have HA := Lib.hid hA
    have HRA1 := Lib.hid (HRA.out.below hb (Nat.le_refl _))
    clear hb HP hA HRA
    by_cases hB0 : B = ⟨#[]⟩
    · subst hB0
      have hBL : BL = [] := hB.symm
      subst hBL
      clear hB
      have HZ : Hid ((A = ⟨#[48]⟩) ↔ AL = [48]) := Lib.hid (by rw [← HA.out]; exact ⟨fun e => by rw [e], fun e => bytes_inj e⟩)
      cases bl with
      | true =>
        by_cases hA0 : A = ⟨#[48]⟩
        · have HX := Lib.hid (intT_bad HPL.out (.inr ⟨rfl, HZ.out.1 hA0⟩))
          subst hA0
          go_wp2_with fail
          go_ret2
          exact ⟨by rw [HR.out, HX.out] <;> rfl, HB.out.alloc HB.out.size _⟩
        · have hna : ¬ ((true : Bool) = true ∧ AL = [48]) := fun h => hA0 (HZ.out.2 h.2)
          have d6 : A.toList ≠ [48] := fun e => hA0 (bytes_inj (by rw [← ByteArray.toList_eq, e]))
          have d7 : (A.toList == [48]) = false := by simpa using d6
          clear d6
          have HW := Lib.hid (HB.out.alloc HB.out.size (.cells #[.bool true, .string A, .string ⟨#[]⟩] 51))
          have HRW := Lib.hid (HRA1.out.below ((Below.refl _ _).alloc (Nat.le_refl _) (.cells #[.bool true, .string A, .string ⟨#[]⟩] 51)) (Nat.le_refl _))
          by_cases hf : fits (wval true AL)
          · have HX := Lib.hid (intT_fit HPL.out hna hf)
            have HPO : Lib.parseIntB 64 s.data.toList = .ok (wval true AL) := by rw [HJ.out, HPI.out, if_pos hf]
            have HC := Lib.hid (fun W => Tryd.strconv_ParseInt_10_at64_ok s (by omega) _ HPO W)
            obtain ⟨v, hv⟩ : ∃ v, v = wval true AL := ⟨_, rfl⟩
            rw [← hv] at HX HC
            clear hv hf HPO hna
            go_wp2_with fail
            refine (HC.out _).mono ?_
            rintro e w2 ⟨rfl, hw2⟩
            have HB2 : Hid (Below w.heap.size w w2) := Lib.hid (by
              rcases hw2 with rfl | ⟨t, rfl⟩
              · exact HW.out
              · exact HW.out.trans ((Lib.bytesWorld_below _ _ _).mono HW.out.size))
            clear hw2
            go_wp2_with fail
            go_ret2
            exact ⟨by rw [HR.out, HX.out] <;> rfl, HB2.out⟩
          · have HX := Lib.hid (intT_big HPL.out hna hf)
            have HPO : Lib.parseIntB 64 s.data.toList = .range := by rw [HJ.out, HPI.out, if_neg hf]
            have HC := Lib.hid (Tryd.strconv_ParseInt_10_at64_range_var s (by omega) HPO tp p _ HRW.out)
            clear hf HPO hna
            go_wp2_with fail
            refine HC.out.mono ?_
            rintro e w2 ⟨Np, rfl, -, -, hb2⟩
            have HB2 := Lib.hid (HW.out.trans (hb2.mono HW.out.size))
            clear hb2
            go_wp2_with fail
            go_ret2
            exact ⟨by rw [HR.out, HX.out] <;> rfl, HB2.out⟩
      | false =>
        have hna : ¬ ((false : Bool) = true ∧ AL = [48]) := fun h => by cases h.1
        have HW := Lib.hid (HB.out.alloc HB.out.size (.cells #[.bool false, .string A, .string ⟨#[]⟩] 51))
        have HRW := Lib.hid (HRA1.out.below ((Below.refl _ _).alloc (Nat.le_refl _) (.cells #[.bool false, .string A, .string ⟨#[]⟩] 51)) (Nat.le_refl _))
        by_cases hf : fits (wval false AL)
        · have HX := Lib.hid (intT_fit HPL.out hna hf)
          have HPO : Lib.parseIntB 64 s.data.toList = .ok (wval false AL) := by rw [HJ.out, HPI.out, if_pos hf]
          have HC := Lib.hid (fun W => Tryd.strconv_ParseInt_10_at64_ok s (by omega) _ HPO W)
          obtain ⟨v, hv⟩ : ∃ v, v = wval false AL := ⟨_, rfl⟩
          rw [← hv] at HX HC
          clear hv hf HPO hna
          go_wp2_with fail
          refine (HC.out _).mono ?_
          rintro e w2 ⟨rfl, hw2⟩
          have HB2 : Hid (Below w.heap.size w w2) := Lib.hid (by
            rcases hw2 with rfl | ⟨t, rfl⟩
            · exact HW.out
            · exact HW.out.trans ((Lib.bytesWorld_below _ _ _).mono HW.out.size))
          clear hw2
          go_wp2_with fail
          go_ret2
          exact ⟨by rw [HR.out, HX.out] <;> rfl, HB2.out⟩
        · have HX := Lib.hid (intT_big HPL.out hna hf)
          have HPO : Lib.parseIntB 64 s.data.toList = .range := by rw [HJ.out, HPI.out, if_neg hf]
          have HC := Lib.hid (Tryd.strconv_ParseInt_10_at64_range_var s (by omega) HPO tp p _ HRW.out)
          clear hf HPO hna
          go_wp2_with fail
          refine HC.out.mono ?_
          rintro e w2 ⟨Np, rfl, -, -, hb2⟩
          have HB2 := Lib.hid (HW.out.trans (hb2.mono HW.out.size))
          clear hb2
          go_wp2_with fail
          go_ret2
          exact ⟨by rw [HR.out, HX.out] <;> rfl, HB2.out⟩
    · have hBL : BL ≠ [] := fun e => hB0 (bytes_inj (by rw [hB, e]))
      have d6 : B.toList.isEmpty = false := by
        rw [ByteArray.toList_eq, hB]
        cases BL with
        | nil => exact absurd rfl hBL
        | cons a r => rfl
      have HX := Lib.hid (intT_bad HPL.out (.inl hBL))
      clear hB hBL hB0
      go_wp2_with fail
      go_ret2
      exact ⟨by rw [HR.out, HX.out] <;> rfl, HB.out.alloc HB.out.size _⟩
end Go.Proofs.YtfpmchhpejncpaaDoor
