/- Digits: the law of what is told and read again: the walk. -/
import Derived.Test.YtfpmchhpejncpaaDoorZc
import Derived.Test.YtfpmchhpejncpaaDoorX
namespace Go.Proofs.YtfpmchhpejncpaaDoor
open Go.RowKit
set_option maxRecDepth 100000
set_option linter.unusedVariables false
theorem itoa_len (n : Int) (h : fits n) : (Lib.itoa n).length ≤ 21 := by
  rw [itoa_join]
  rw [joinL_len, if_pos rfl]
  have := dec_len64 (u := n.natAbs) (by have := h.1; have := h.2; omega)
  split <;> omega
theorem textL_len (below : Bool) (m : Nat) (h : m ≤ 9223372036854775808) : (textL below m).length ≤ 100 := by
  rw [textL_join, joinL_len]
  have h1 := dec_len20 (u := m / 4294967296) (by omega)
  have h2 := (behindT_val m).2.1
  split <;> split <;> omega
set_option maxHeartbeats 8000000 in
theorem Back_row0 (a n : Int) (ha1 : -9223372036854775808 ≤ a) (ha2 : a ≤ 9223372036854775807) (hn : fits n) (tp : TypeId) (p : Value) (w : World) (ht : Tab w) (hr : Ran w tp p) : Calls Tryd.prog 9 #[.int .i64 a, .int .i64 n] w fun e w' => e = .returned (.bool true) ∧ Below w.heap.size w w' := by
  have HT := Lib.hid ht
  have HRA := Lib.hid hr
  obtain ⟨below, m, ha, hm, hb, hp⟩ : ∃ (below : Bool) (m : Nat), (a = if below = true then -(m : Int) else m) ∧ m ≤ 9223372036854775808 ∧ (below = true → 1 ≤ m) ∧ (below = false → m ≤ 9223372036854775807) := by
    by_cases h : a < 0
    · exact ⟨true, a.natAbs, by simp only [if_true]; omega, by omega, (fun _ => by omega), fun h => by cases h⟩
    · exact ⟨false, a.natAbs, by simp only [Bool.false_eq_true, if_false]; omega, by omega, (fun h => by cases h), fun _ => by omega⟩
  have HX := Lib.hid (fun W hW => Text_any below a m ha hm hb hp W hW)
  have HLT := Lib.hid (textL_len below m hm)
  have HPT := Lib.hid (parse_text below a m ha hm hp)
  obtain ⟨T, hT⟩ : ∃ T, T = textL below m := ⟨_, rfl⟩
  rw [← hT] at HX HLT HPT
  have HP := Lib.hid (fun W => Parse_any ⟨T.toArray⟩ (by rw [bsz]; have := HLT.out; simp; omega) W)
  rw [HPT.out] at HP
  have HLI := Lib.hid (itoa_len n hn)
  have HIW := Lib.hid (int_whole n hn)
  have HWH := Lib.hid (fun W hW => Whole_any n hn W hW)
  obtain ⟨I, hI⟩ : ∃ I, I = Lib.itoa n := ⟨_, rfl⟩
  rw [← hI] at HLI HIW HWH
  have HIN := Lib.hid (fun W hW => Int_any ⟨I.toArray⟩ (by rw [bsz]; have := HLI.out; simp; omega) tp p W hW)
  rw [HIW.out] at HIN
  clear hT hI ha hm hb hp ht hr hn HPT HIW HLT HLI
  go_enter Tryd.func9, Tryd.ntmps9
  go_wp2_with fail
  refine (awake_any _ HT.out).mono ?_
  rintro e w1 ⟨rfl, hb1⟩
  have B1 := Lib.hid hb1
  clear hb1
  go_wp2_with fail
  refine (HX.out _ (HT.out.below B1.out (Nat.le_refl _))).mono ?_
  rintro e w2 ⟨rfl, hb2⟩
  have B2 := Lib.hid (B1.out.trans (hb2.mono B1.out.size))
  clear hb2
  go_wp2_with fail
  refine (HP.out _).mono ?_
  rintro e w3 ⟨rfl, hb3⟩
  have B3 := Lib.hid (B2.out.trans (hb3.mono B2.out.size))
  clear hb3
  go_wp2_with fail
  refine (HWH.out _ (HT.out.below B3.out (Nat.le_refl _))).mono ?_
  rintro e w4 ⟨rfl, hb4⟩
  have B4 := Lib.hid (B3.out.trans (hb4.mono B3.out.size))
  clear hb4
  go_wp2_with fail
  refine (HIN.out _ (HRA.out.below B4.out (Nat.le_refl _))).mono ?_
  rintro e w5 ⟨rfl, hb5⟩
  have B5 := Lib.hid (B4.out.trans (hb5.mono B4.out.size))
  clear hb5
  go_wp2_with fail
  go_ret
  exact ⟨rfl, B5.out⟩
theorem Back_row (a n : Int) (w : World) (ha : (Lit.int .i64 a).wf = true) (hn : (Lit.int .i64 n).wf = true) (ht : Tab w) (hr : ∃ tp p, Ran w tp p) : Calls Tryd.prog 9 #[.int .i64 a, .int .i64 n] w fun e w' => e = .returned (.bool true) ∧ Below w.heap.size w w' := by
  obtain ⟨tp, p, hr⟩ := hr
  exact Back_row0 a n (wf64 ha).1 (wf64 ha).2 (wf64 hn) tp p w ht hr
end Go.Proofs.YtfpmchhpejncpaaDoor
