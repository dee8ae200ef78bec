/- Digits: apart, whatever the text. -/
import Derived.Test.YtfpmchhpejncpaaDoorG
namespace Go.Proofs.YtfpmchhpejncpaaDoor
open Go.RowKit
set_option maxRecDepth 100000
set_option linter.unusedVariables false
set_option maxHeartbeats 16000000 in
theorem apart_empty (w : World) : Calls Tryd.prog 23 #[.string ⟨#[]⟩] w (ApartPost none w) := by
  go_enter Tryd.func23, Tryd.ntmps23
  go_wp2_with fail
  go_step3
  go_wp2_with fail
  go_step3
  go_wp2_with fail
  obtain ⟨W0, hW0⟩ : ∃ W0, W0 = (w.alloc (.cells #[.bool false, .string ⟨#[]⟩, .string ⟨#[]⟩] 51)).alloc (.cells #[.bool false, .string ⟨#[]⟩, .string ⟨#[]⟩] 51) := ⟨_, rfl⟩
  have hs0 : W0.heap.size = w.heap.size + 1 + 1 := by rw [hW0, World.size_alloc, World.size_alloc]
  have HITER : Hid (∀ q, W0.iter ⟨#[]⟩ q = ((w.alloc (.cells #[.bool false, .string ⟨#[]⟩, .string ⟨#[]⟩] 51)).alloc (.cells #[.bool false, .string ⟨#[]⟩, .string ⟨#[]⟩] 51)).alloc (.stringIter ⟨#[]⟩ q)) := Lib.hid (fun q => by rw [hW0]; rfl)
  rw [← hW0]
  have HS0 := Lib.hid hs0
  clear hW0 hs0
  go_loopw [5, 6, 7, 8] (fun q e _ _ wr => wr = W0.iter ⟨#[]⟩ 0 ∧ q = .int .i64 0 ∧ e = .bool true) (fun _ _ _ _ wr => 0)
  case atStart => exact ⟨rfl, rfl, rfl⟩
  case round =>
    obtain ⟨rfl, rfl, rfl⟩ := hrel
    have hnx := next_end W0 _ HS0.out ⟨#[]⟩ 0 (by decide)
    have hnx2 : ∀ ty, (Instr.next (.pointer (some ⟨w.heap.size + 1 + 1, 0, none⟩)) true ty).run Tryd.prog (W0.iter ⟨#[]⟩ 0) = .ok (.tuple #[.bool false]) (((w.alloc (.cells #[.bool false, .string ⟨#[]⟩, .string ⟨#[]⟩] 51)).alloc (.cells #[.bool false, .string ⟨#[]⟩, .string ⟨#[]⟩] 51)).alloc (.stringIter ⟨#[]⟩ 0)) := fun ty => by rw [← HITER.out]; exact hnx ty
    clear hnx
    go_wp2_with fail
    try rw [Exit.noGoto_ret]
    exact bodyPost_ret (v := .tuple #[.agg #[.bool false, .string ByteArray.empty, .string ⟨#[]⟩], .bool false]) (by simp [results, Tryd.results23, go_sem]) rfl ⟨below_three w _ _ _, false, false, ByteArray.empty, ⟨#[]⟩, rfl, rfl⟩
set_option maxHeartbeats 16000000 in
theorem apart_dash (w : World) : Calls Tryd.prog 23 #[.string ⟨#[45]⟩] w (ApartPost none w) := by
  go_enter Tryd.func23, Tryd.ntmps23
  go_wp2_with fail
  go_step3
  go_wp2_with fail
  go_step3
  go_wp2_with fail
  obtain ⟨W0, hW0⟩ : ∃ W0, W0 = (w.alloc (.cells #[.bool false, .string ⟨#[]⟩, .string ⟨#[]⟩] 51)).alloc (.cells #[.bool true, .string ⟨#[]⟩, .string ⟨#[]⟩] 51) := ⟨_, rfl⟩
  have hs0 : W0.heap.size = w.heap.size + 1 + 1 := by rw [hW0, World.size_alloc, World.size_alloc]
  have HITER : Hid (∀ q, W0.iter ⟨#[]⟩ q = ((w.alloc (.cells #[.bool false, .string ⟨#[]⟩, .string ⟨#[]⟩] 51)).alloc (.cells #[.bool true, .string ⟨#[]⟩, .string ⟨#[]⟩] 51)).alloc (.stringIter ⟨#[]⟩ q)) := Lib.hid (fun q => by rw [hW0]; rfl)
  rw [← hW0]
  have HS0 := Lib.hid hs0
  clear hW0 hs0
  go_loopw [5, 6, 7, 8] (fun q e _ _ wr => wr = W0.iter ⟨#[]⟩ 0 ∧ q = .int .i64 0 ∧ e = .bool true) (fun _ _ _ _ wr => 0)
  case atStart => exact ⟨rfl, rfl, rfl⟩
  case round =>
    obtain ⟨rfl, rfl, rfl⟩ := hrel
    have hnx := next_end W0 _ HS0.out ⟨#[]⟩ 0 (by decide)
    have hnx2 : ∀ ty, (Instr.next (.pointer (some ⟨w.heap.size + 1 + 1, 0, none⟩)) true ty).run Tryd.prog (W0.iter ⟨#[]⟩ 0) = .ok (.tuple #[.bool false]) (((w.alloc (.cells #[.bool false, .string ⟨#[]⟩, .string ⟨#[]⟩] 51)).alloc (.cells #[.bool true, .string ⟨#[]⟩, .string ⟨#[]⟩] 51)).alloc (.stringIter ⟨#[]⟩ 0)) := fun ty => by rw [← HITER.out]; exact hnx ty
    clear hnx
    go_wp2_with fail
    try rw [Exit.noGoto_ret]
    exact bodyPost_ret (v := .tuple #[.agg #[.bool true, .string ByteArray.empty, .string ⟨#[]⟩], .bool false]) (by simp [results, Tryd.results23, go_sem]) rfl ⟨below_three w _ _ _, true, false, ByteArray.empty, ⟨#[]⟩, rfl, rfl⟩

theorem barr_one (s : ByteArray) (h : s.size = 1) (h0 : s[0] = 45) : s = ⟨#[45]⟩ := by
  cases s with
  | mk d =>
    cases d with
    | mk l =>
      match l, h, h0 with
      | [a], _, h0 => cases (show a = 45 from h0); rfl
theorem barr_zero (s : ByteArray) (h : ¬ 0 < s.size) : s = ⟨#[]⟩ := by
  cases s with
  | mk d =>
    cases d with
    | mk l =>
      match l, h with
      | [], _ => rfl
      | a :: l, h => exact absurd (Nat.succ_pos l.length) h
theorem apart_any (s : ByteArray) (hs : s.size ≤ 100000) (w : World) :
    Calls Tryd.prog 23 #[.string s] w (ApartPost (partsL s.data.toList) w) := by
  by_cases h0 : 0 < s.size
  · have hh := head_get h0
    by_cases h45 : s[0] = 45
    · by_cases h1 : s.size = 1
      · cases barr_one s h1 h45
        exact apart_dash w
      · have hz : 0 < (s.extract 1 s.size).size := by rw [ByteArray.size_extract]; omega
        have := apart_minus s hs h0 h45 _ rfl hz w
        rw [ext_list] at this
        have e : partsL s.data.toList = restL true ((s.data.toList.drop 1).take (s.size - 1)) := by
          unfold partsL
          rw [hh, h45, if_pos rfl, ← List.drop_one, List.take_of_length_le]
          rw [List.length_drop, ← lsize]; omega
        rw [e]; exact this
    · have := apart_plain s hs h0 h45 w
      have e : partsL s.data.toList = restL false s.data.toList := by
        unfold partsL
        rw [hh, if_neg (fun e => h45 (Option.some.inj e))]
      rw [e]; exact this
  · cases barr_zero s h0
    exact apart_empty w
end Go.Proofs.YtfpmchhpejncpaaDoor
