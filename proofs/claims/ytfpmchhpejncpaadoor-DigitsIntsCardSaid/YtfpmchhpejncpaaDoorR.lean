/- Digits: the chapter's examples. -/
import Derived.Test.YtfpmchhpejncpaaDoorN3
import Derived.Test.YtfpmchhpejncpaaDoorQ
namespace Go.Proofs.YtfpmchhpejncpaaDoor
open Go.RowKit
set_option maxRecDepth 100000
set_option linter.unusedVariables false
theorem parse_tenth : parseT [48, 46, 49] = .tuple #[.int .i64 429496730, .bool false, .int .i64 0] := by
  have h : partsL [48, 46, 49] = some (false, [48], [49]) := by decide
  rw [parseT_some h (by decide), sumOf_rnd [48] (by decide) (by decide)]
  have e : min (val (digs [48])) 1099511627776 * 4294967296 + rnd (val (fillD [49])) = 429496730 := by decide +kernel
  rw [e]
  rfl
theorem parse_over : parseT [50, 49, 52, 55, 52, 56, 51, 54, 52, 56] = .tuple #[.int .i64 9223372036854775807, .bool true, .int .i64 0] := by
  have h : partsL [50, 49, 52, 55, 52, 56, 51, 54, 52, 56] = some (false, [50, 49, 52, 55, 52, 56, 51, 54, 52, 56], []) := by decide
  rw [parseT_some h (by decide), sumOf_rnd _ (by decide) (by decide)]
  have e : min (val (digs [50, 49, 52, 55, 52, 56, 51, 54, 52, 56])) 1099511627776 * 4294967296 + rnd (val (fillD [])) = 9223372036854775808 := by decide +kernel
  rw [e]
  rfl
theorem parse_dot : parseT [49, 46] = .tuple #[.int .i64 0, .bool false, .int .i64 30] := parseT_none (by decide)
theorem text_one : textL true 1 = [45, 48, 46, 48, 48, 48, 48, 48, 48, 48, 48, 48, 50, 51, 50, 56, 51, 48, 54, 52, 51, 54, 53, 51, 56, 54, 57, 54, 50, 56, 57, 48, 54, 50, 53] := by
  unfold textL
  rw [show (1 : Nat) / 4294967296 = 0 by decide, dec_one (by decide)]
  decide
set_option maxHeartbeats 4000000 in
theorem awake_any (w : World) (ht : Tab w) : Calls Tryd.prog 10 #[] w fun e w' => e = .returned (.bool true) ∧ Below w.heap.size w w' := by
  have HT := Lib.hid ht
  have H1 := Lib.hid (fun W => Parse_any ⟨#[48, 46, 49]⟩ (by decide) W)
  have H2 := Lib.hid (fun W => Parse_any ⟨#[50, 49, 52, 55, 52, 56, 51, 54, 52, 56]⟩ (by decide) W)
  have H3 := Lib.hid (fun W => Parse_any ⟨#[49, 46]⟩ (by decide) W)
  rw [parse_tenth] at H1
  rw [parse_over] at H2
  rw [parse_dot] at H3
  go_enter Tryd.func10, Tryd.ntmps10
  go_wp2_with fail
  refine (H1.out _).mono ?_
  rintro e w1 ⟨rfl, hb1⟩
  have B1 := Lib.hid hb1
  clear hb1
  go_wp2_with fail
  refine (H2.out _).mono ?_
  rintro e w2 ⟨rfl, hb2⟩
  have B2 := Lib.hid (B1.out.trans (hb2.mono B1.out.size))
  clear hb2
  go_wp2_with fail
  refine (H3.out _).mono ?_
  rintro e w3 ⟨rfl, hb3⟩
  have B3 := Lib.hid (B2.out.trans (hb3.mono B2.out.size))
  clear hb3
  go_wp2_with fail
  refine (Text_any true (-1) 1 rfl (by omega) (by simp) (by simp) _ (HT.out.below B3.out (Nat.le_refl _))).mono ?_
  rw [text_one]
  rintro e w4 ⟨rfl, hb4⟩
  have B4 := Lib.hid (B3.out.trans (hb4.mono B3.out.size))
  clear hb4
  go_wp2_with fail
  go_ret
  exact ⟨rfl, B4.out⟩
end Go.Proofs.YtfpmchhpejncpaaDoor
