/- Digits: whole numbers: the program's. -/
import Derived.Test.YtfpmchhpejncpaaDoorN5
import Derived.Test.YtfpmchhpejncpaaDoorE2
import Derived.Test.YtfpmchhpejncpaaDoorSh2
import Derived.Test.YtfpmchhpejncpaaDoorT
namespace Go.Proofs.YtfpmchhpejncpaaDoor
open Go.RowKit
set_option maxRecDepth 100000
set_option linter.unusedVariables false
theorem Whole_any (n : Int) (h : fits n) (w : World) (ht : Tab w) : Calls Tryd.prog 18 #[.int .i64 n] w fun e w' => e = .returned (.string ⟨(Lib.itoa n).toArray⟩) ∧ Below w.heap.size w w' := by
  have HI := Lib.hid (Tryd.strconv_Itoa n h.1 h.2 w ht)
  go_enter Tryd.func18, Tryd.ntmps18
  go_wp2_with fail
  refine HI.out.mono ?_
  rintro e w1 ⟨rfl, hb⟩
  have HB : Hid (Below w.heap.size w w1) := Lib.hid (by
    obtain ⟨k, os, rfl⟩ := hb
    exact Lib.below_grow _ _ (Nat.le_refl _) _ _)
  clear hb
  go_wp2_with fail
  go_ret
  exact ⟨rfl, HB.out⟩
theorem rWhole_any (n : Int) (h : fits n) (w : World) : Calls Tryd.prog 19 #[.int .i64 n] w fun e w' => e = .returned (.string ⟨(Lib.itoa n).toArray⟩) ∧ Below w.heap.size w w' := by
  obtain ⟨m, hm⟩ : ∃ m, m = n.natAbs := ⟨_, rfl⟩
  have h1 := h.1
  have h2 := h.2
  have HD := Lib.hid (fun W => Digits_any m (by omega) W)
  by_cases h0 : n < 0
  · have e : n = -(m : Int) := by omega
    have HS := Lib.hid (fun W => Size_neg m (by omega) (by omega) W)
    have HI : Hid (Lib.itoa n = [45] ++ Lib.decDigits m) := Lib.hid (by unfold Lib.itoa; rw [if_pos h0, hm]; rfl)
    have hl : (Lib.decDigits m).length ≤ 20 := dec_len64 (by omega)
    obtain ⟨D, hD⟩ : ∃ D, D = Lib.decDigits m := ⟨_, rfl⟩
    rw [← hD] at HD HI hl
    clear hD hm h
    obtain ⟨R, hR⟩ : ∃ R, R = Lib.itoa n := ⟨_, rfl⟩
    rw [← hR] at HI ⊢
    clear hR
    subst e
    have d1 : decide (-(m : Int) < 0) = true := decide_eq_true h0
    go_enter Tryd.func19, Tryd.ntmps19
    go_wp2_with fail
    refine (HS.out _).mono ?_
    rintro e w1 ⟨rfl, rfl⟩
    go_wp2_with fail
    refine (HD.out _).mono ?_
    rintro e w2 ⟨rfl, hb⟩
    have HB := Lib.hid hb
    clear hb
    have hsz : (⟨D.toArray⟩ : ByteArray).size ≤ 20 := by rw [bsz]; simpa using hl
    go_wp2_with fail
    go_ret
    exact ⟨by rw [HI.out, ← cat_lists] <;> rfl, HB.out⟩
  · have e : n = (m : Int) := by omega
    have HI : Hid (Lib.itoa n = Lib.decDigits m) := Lib.hid (by unfold Lib.itoa; rw [if_neg h0, hm]; congr 1; omega)
    obtain ⟨D, hD⟩ : ∃ D, D = Lib.decDigits m := ⟨_, rfl⟩
    rw [← hD] at HD HI
    clear hD hm h
    obtain ⟨R, hR⟩ : ∃ R, R = Lib.itoa n := ⟨_, rfl⟩
    rw [← hR] at HI ⊢
    clear hR
    subst e
    have d1 : decide ((m : Int) < 0) = false := decide_eq_false h0
    have m1 : IntKind.u64.wrap (m : Int) = (m : Int) := by rw [IntKind.wrap_u64]; omega
    go_enter Tryd.func19, Tryd.ntmps19
    go_wp2_with fail
    refine (HD.out _).mono ?_
    rintro e w2 ⟨rfl, hb⟩
    have HB := Lib.hid hb
    clear hb
    go_wp2_with fail
    go_ret
    exact ⟨by rw [HI.out] <;> rfl, HB.out⟩
end Go.Proofs.YtfpmchhpejncpaaDoor
