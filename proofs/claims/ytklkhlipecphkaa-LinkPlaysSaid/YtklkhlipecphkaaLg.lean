/- Link: awake. -/
import Derived.Test.YtklkhlipecphkaaLf
import Derived.Lib.SlBytesConst
namespace Go.Proofs.Ytklkhlipecphkaa
open Go.RowKit Go.Joins Go.Maps
set_option maxRecDepth 100000
set_option linter.unusedVariables false

theorem src_one (w1 : World) (c : Int) (fz : Nat × Nat) (cap : Nat) : Src (w1.alloc (.cells #[.int .u8 c] 5 fz)) (.slice (some ⟨w1.heap.size, 0, none⟩) 1 cap) [.int .u8 c] := by
  refine .inl ⟨_, cap, rfl, fun j u hu => ?_⟩
  match j, hu with
  | 0, hu =>
    simp at hu; subst hu
    rw [add_plain]
    unfold World.cell?
    rw [(MapKept.heap_alloc w1 (.cells #[.int .u8 c] 5 fz)).1]
    rfl
  | j + 1, hu => simp at hu
set_option maxHeartbeats 4000000 in
theorem awake16_yes (w : World) : Calls Try.prog 16 #[] w fun e w' => e = .returned (.bool true) ∧ Below w.heap.size w w' := by
  obtain ⟨kl, hkl⟩ := key_some 0 1 k01
  have HK := Lib.hid hkl
  clear hkl
  have kc := fun (w : World) (C : Array Value) (n c : Nat) => Lib.run_convert_bytes_const (P := Try.prog) w 34 5 C n c (by kernel_rfl) (by kernel_rfl)
  go_enter Try.func16, Try.ntmps16
  go_wp2_with fail
  refine (lNew_yes 2 1 w (by omega) (by omega) (by omega) (by omega)).mono ?_
  rintro e w1 ⟨B, M, rfl, hnet, hb1⟩
  have HN := Lib.hid hnet; have HB1 := Lib.hid hb1
  clear hnet hb1
  go_wp2_with fail
  have A1 := (Below.refl _ w1).alloc (Nat.le_refl _) (.cells #[.int .u8 97] 5 (1, 2))
  refine (Send_ok (HN.out.below A1) (by simp [maxLen]) HK.out (by omega) (by omega) (by omega) (by omega) (by omega) (us := []) (World.ownsRow_nil _ _ _ _) (by simp) (by omega) (bs := by8 [97]) (src_one w1 97 _ 1) (by simp [by8]) (by8_one _)).mono ?_
  rintro e w2 ⟨rfl, v', u', n2, rw2, msg2, fr2, ch2, -⟩
  have HN2 := Lib.hid n2; have HR2 := Lib.hid rw2; have HM2 := Lib.hid msg2; have HC2 := Lib.hid ch2
  clear n2 rw2 msg2 fr2 ch2 A1
  go_wp2_with fail
  have A2 := (Below.refl _ w2).alloc (Nat.le_refl _) (.cells #[.int .u8 98] 5 (1, 2))
  refine (Send_full (HN2.out.below A2) HK.out (by omega) (by omega) (by omega) (by omega) (by omega) (us := [u']) (by rw [lupd_same]; exact row_below HR2.out A2) (by simp) _ 1 _ (by omega)).mono ?_
  rintro e w3 ⟨rfl, hb3⟩
  have HB3 := Lib.hid (Below.step hb3)
  clear hb3 A2
  go_wp2_with fail
  obtain ⟨q, cu, rfl⟩ : ∃ g cu, u' = .slice (some ⟨g, 0, none⟩) 1 cu := by
    rcases ownsRow_forms HM2.out with ⟨h, h0⟩ | ⟨g, cp, h⟩
    · simp [by8] at h0
    · exact ⟨g, cp, h⟩
  have tk := Take_ok (HN2.out.below HB3.out) (by simp [maxLen]) HK.out (by omega) (by omega) (by omega) (by omega) (by omega) (us := [.slice (some ⟨q, 0, none⟩) 1 cu]) (by rw [lupd_same]; exact row_below HR2.out HB3.out) (by simp) (fun x hx => by simp at hx; subst hx; rfl) (i := 0) (ou := some ⟨q, 0, none⟩) (lu := 1) (cu := cu) rfl
  refine tk.mono ?_
  rintro e w4 ⟨rfl, v4, n4', hn4, n4, rw4, fr4, ch4⟩
  have msg4 : w4.ownsRow w.heap.size 5 1 (.slice (some ⟨q, 0, none⟩) 1 cu) 1 (by8 [97]) := by
    obtain ⟨es, cl, hm⟩ := rows_isMap (HN2.out.below HB3.out).map
    refine row_chg (row_below HM2.out HB3.out) ch4 (fun k hk e => ?_)
    subst e
    exact row_ne_map (row_below HM2.out HB3.out) hm hk.symm
  have cv : (convert 34 9 (.slice (some ⟨q, 0, none⟩) 1 cu)).run Try.prog w4 = .ok (.string ⟨#[97]⟩) w4 := by
    have := run_convert_bytes_back (P := Try.prog) w4 34 9 5 ⟨q, 0, none⟩ cu [97] (by kernel_rfl) (by kernel_rfl) (by kernel_rfl) (fun j hj => by
      rw [add_plain, Nat.zero_add]
      rw [msg4.cellAt j (by simpa using hj)]
      match j, hj with
      | 0, _ => rfl
      | j + 1, hj => simp at hj)
    exact this
  have HN4 := Lib.hid n4; have HR4 := Lib.hid rw4; have HC4 := Lib.hid ch4
  clear n4 rw4 fr4 ch4 tk msg4
  go_wp2_with fail
  refine (Waits_ok HN4.out (by omega) HK.out (us := []) (by rw [lupd_same]; exact HR4.out)).mono ?_
  rintro e w5 ⟨rfl, rfl⟩
  go_wp2_with fail
  refine (Send_same HN4.out (by omega) (by omega) _).mono ?_
  rintro e w6 ⟨rfl, hb6⟩
  have HB6 := Lib.hid hb6
  clear hb6
  go_wp2_with fail
  go_ret
  refine ⟨rfl, ?_⟩
  have hs1 := HB1.out.size
  have k2 : Below w.heap.size w w2 := (HB1.out.alloc hs1 (.cells #[.int .u8 97] 5 (1, 2))).trans (HC2.out.below (by rw [World.size_alloc]; omega) (fun k hk => by
    rcases hk with hk | rfl
    · simp [Value.ownBlock] at hk
    · exact HN.out.hM))
  have k3 : Below w.heap.size w w3 := k2.trans (HB3.out.mono k2.size)
  have k4 : Below w.heap.size w w5 := k3.trans (HC4.out.below k3.size (fun k hk => by rw [hk]; exact HN.out.hM))
  exact k4.trans (HB6.out.mono k4.size)
end Go.Proofs.Ytklkhlipecphkaa
