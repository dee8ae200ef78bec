/- Link: the law LinkRows, walked. -/
import Derived.Test.YtklkhlipecphkaaLm
namespace Go.Proofs.Ytklkhlipecphkaa
open Go.RowKit Go.Joins Go.Maps
set_option maxRecDepth 100000
set_option linter.unusedVariables false

set_option maxHeartbeats 1000000 in
theorem LinkRows_low (most : Int) (oa ta : Option Addr) (len cap tl tc : Nat) (w : World) (h : most < 1) : Calls Try.prog 4 #[.int .i64 most, .slice oa len cap, .slice ta tl tc] w fun e w' => e = .returned (.bool true) ∧ Below w.heap.size w w' := by
  have d1 : decide (most < 1) = true := decide_eq_true (by omega)
  go_enter Try.func4, Try.ntmps4
  go_wp2_with fail
  refine (awake16_yes _).mono ?_
  rintro e w1 ⟨rfl, hb⟩
  have HB := Lib.hid hb
  clear hb
  go_wp2_with fail
  go_ret
  exact ⟨rfl, HB.out⟩
set_option maxHeartbeats 1000000 in
theorem LinkRows_high (most : Int) (oa ta : Option Addr) (len cap tl tc : Nat) (w : World) (h0 : 1 ≤ most) (h : 64 < most) : Calls Try.prog 4 #[.int .i64 most, .slice oa len cap, .slice ta tl tc] w fun e w' => e = .returned (.bool true) ∧ Below w.heap.size w w' := by
  have d1 : decide (most < 1) = false := decide_eq_false (by omega)
  have d2 : decide (64 < most) = true := decide_eq_true (by omega)
  go_enter Try.func4, Try.ntmps4
  go_wp2_with fail
  refine (awake16_yes _).mono ?_
  rintro e w1 ⟨rfl, hb⟩
  have HB := Lib.hid hb
  clear hb
  go_wp2_with fail
  go_ret
  exact ⟨rfl, HB.out⟩
set_option maxHeartbeats 1000000 in
theorem LinkRows_long (most : Int) (oa ta : Option Addr) (len cap tl tc : Nat) (w : World) (h0 : 1 ≤ most) (h1 : most ≤ 64) (h : 60 < len) : Calls Try.prog 4 #[.int .i64 most, .slice oa len cap, .slice ta tl tc] w fun e w' => e = .returned (.bool true) ∧ Below w.heap.size w w' := by
  have d1 : decide (most < 1) = false := decide_eq_false (by omega)
  have d2 : decide (64 < most) = false := decide_eq_false (by omega)
  have d3 : decide (60 < (len : Int)) = true := decide_eq_true (by omega)
  go_enter Try.func4, Try.ntmps4
  go_wp2_with fail
  refine (awake16_yes _).mono ?_
  rintro e w1 ⟨rfl, hb⟩
  have HB := Lib.hid hb
  clear hb
  go_wp2_with fail
  go_ret
  exact ⟨rfl, HB.out⟩

set_option maxHeartbeats 16000000 in
theorem LinkRows_main (most : Nat) (oa ta : Option Addr) (len cap tl tc : Nat) (O : Nat → OpB) (T : Nat → Bool) (w : World) (h1 : 1 ≤ most) (h2 : most ≤ 64) (hl : len ≤ 60) (hO : IsLists w oa len cap O) (hT : IsBools w ta tl tc T) :
    Calls Try.prog 4 #[.int .i64 (most : Int), .slice oa len cap, .slice ta tl tc] w fun e w' => e = .returned (.bool true) ∧ Below w.heap.size w w' := by
  obtain ⟨kl, hkl⟩ := key_some 2 1 k21
  obtain ⟨kb, hkb⟩ := key_some 1 2 k12
  obtain ⟨kc, hkc⟩ := key_some 2 0 k20
  have HB1 := Lib.hid (key_ne hkb hkl (by omega)); have HB2 := Lib.hid (key_ne hkc hkl (by omega))
  have HKL := Lib.hid hkl; have HKB := Lib.hid hkb; have HKC := Lib.hid hkc; have HO := Lib.hid hO; have HTT := Lib.hid hT
  clear hkl hkb hkc hO hT
  have d1 : decide ((most : Int) < 1) = false := decide_eq_false (by omega)
  have d2 : decide (64 < (most : Int)) = false := decide_eq_false (by omega)
  have d3 : decide (60 < (len : Int)) = false := decide_eq_false (by omega)
  go_enter Try.func4, Try.ntmps4
  go_wp2_with fail
  refine (awake16_yes _).mono ?_
  rintro e w1 ⟨rfl, hb⟩
  have HW1 := Lib.hid hb
  clear hb
  go_wp2_with fail
  refine (lNew_yes 3 most w1 (by omega) (by omega) (by omega) (by omega)).mono ?_
  rintro e w2 ⟨B, M, rfl, hnet, hb2⟩
  obtain ⟨N, hN⟩ : ∃ N, N = w1.heap.size := ⟨_, rfl⟩
  rw [← hN] at hnet
  have R0 : RR w N B M most (fun _ => none) 0 kl kb kc [] [] [] (.slice none 0 0) w2 :=
    { net := hnet, row := World.ownsRow_nil _ _ _ _, nb := rfl, nc := rfl, wnd := Wnd.nil _ _, apart := fun k hk => by simp [Value.ownBlock] at hk, lu := rfl, lw := rfl, le := Nat.zero_le _, msg := fun i c hc => by simp at hc, bel := HW1.out.trans (hb2.mono HW1.out.size), hN := by rw [hN]; exact HW1.out.size }
  have HR0 := Lib.hid R0
  clear hnet hb2 hN R0
  go_wp2_with fail
  go_loopw [9, 10, 11, 12, 13, 14, 37] (fun v9 _ _ _ _ _ i W => ∃ (k n : Nat) (f : Lit → Option Value) (us ws : List Value) (cs : List (List Int)), k ≤ len ∧ i = .int .i64 (k : Int) ∧ n ≤ 2 * k ∧ RR w N B M most f n kl kb kc us ws cs v9 W) (fun _ _ _ _ _ _ i _ => len - (intOf i).toNat)
  case atStart => exact ⟨0, 0, _, [], [], [], Nat.zero_le _, rfl, by omega, HR0.out⟩
  case round =>
    obtain ⟨k, n, f, us, ws, cs, hk, rfl, hn, R⟩ := hrel
    obtain ⟨m, hm⟩ : ∃ m, m = cs.length := ⟨_, rfl⟩
    obtain ⟨o9, c9, e9⟩ := R.wnd.form
    rw [R.lw, ← hm] at e9
    subst e9
    have HR := Lib.hid R; have HMC := Lib.hid hm; have HN2 := Lib.hid hn
    have hmm : m ≤ most := by rw [hm]; exact R.le
    clear R hm hn
    by_cases hlt : k < len
    · obtain ⟨x, rfl, hx⟩ := HO.out.2 (by omega)
      obtain ⟨cx, hby⟩ := hx k hlt
      have cx2 := (HR.out.bel.cell (lt_of_cell cx)).trans cx
      obtain ⟨op, hop⟩ : ∃ op, op = O k := ⟨_, rfl⟩
      rw [← hop] at cx2 hby
      have HBY := Lib.hid hby; have HOP := Lib.hid hop
      have hlc := hby.le
      unfold maxLen at hlc
      clear hop hx hby cx
      have e1 : decide ((k : Int) < (len : Int)) = true := decide_eq_true (by omega)
      by_cases hb : 300 < op.lb
      · have e2 : decide (300 < (op.lb : Int)) = true := decide_eq_true (by omega)
        go_wp2_with fail
        go_ret
        exact ⟨rfl, HR.out.bel⟩
      · have e2 : decide (300 < (op.lb : Int)) = false := decide_eq_false (by omega)
        have hl2 := bytes_len HBY.out
        by_cases hfull : m = most
        · have e3 : ((m : Int) == (most : Int)) = true := by simp; omega
          have HF := Lib.hid hfull
          clear hfull hl2
          go_wp2_with fail
          refine (Send_full HR.out.net HKL.out (by omega) (by omega) (by omega) (by omega) (by omega) HR.out.row (by have := HR.out.lu; have := HMC.out; have := HF.out; omega) _ _ _ (by omega)).mono ?_
          rintro e w3 ⟨rfl, hb3⟩
          have HR3 := Lib.hid (HR.out.below hb3)
          have HNE : Hid (1 ≤ m) := Lib.hid (by have := HF.out; omega)
          have HN3 : Hid (n ≤ 2 * k + 1) := Lib.hid (by have := HN2.out; omega)
          clear hb3 HR cx2 HN2
          have HN2 := HN3
          clear HN3
          go_wp2_with fail
          have q1 := Waits_ok HR3.out.net (by omega) HKL.out HR3.out.row
          rw [HR3.out.lu, ← HMC.out] at q1
          have q2 := Waits_ok HR3.out.net (by omega) HKB.out (us := []) (by rw [HR3.out.nb]; exact World.ownsRow_nil _ _ _ _)
          have q3 := Waits_ok HR3.out.net (by omega) HKC.out (us := []) (by rw [HR3.out.nc]; exact World.ownsRow_nil _ _ _ _)
          have HQ1 := Lib.hid q1; have HQ2 := Lib.hid q2; have HQ3 := Lib.hid q3
          clear q1 q2 q3
          go_wp2_with fail
          refine HQ1.out.mono ?_
          rintro e wz ⟨rfl, rfl⟩
          go_wp2_with fail
          refine HQ2.out.mono ?_
          rintro e wz ⟨rfl, rfl⟩
          go_wp2_with fail
          refine HQ3.out.mono ?_
          rintro e wz ⟨rfl, rfl⟩
          clear HQ1 HQ2 HQ3
          by_cases hkt : k < tl
          · have e5 : decide ((k : Int) < (tl : Int)) = true := decide_eq_true (by omega)
            obtain ⟨y, rfl, hy⟩ := HTT.out.2 (by omega)
            have cy := hy k hkt
            have cy2 := (HR3.out.bel.cell (lt_of_cell cy)).trans cy
            clear hy cy
            cases hT : T k with
            | false =>
              rw [hT] at cy2
              go_wp2_with fail
              go_roundw
              case rel => exact ⟨k + 1, n, f, us, ws, cs, by omega, by go_num, by have := HN2.out; omega, HR3.out⟩
              case measure => simp [intOf]; omega
            | true =>
              rw [hT] at cy2
              have R := HR3.out
              obtain ⟨u, us3, rfl⟩ := List.exists_cons_of_length_pos (l := us) (by rw [R.lu, ← HMC.out]; exact HNE.out)
              obtain ⟨v, ws3, rfl⟩ := List.exists_cons_of_length_pos (l := ws) (by rw [R.lw, ← HMC.out]; exact HNE.out)
              obtain ⟨c3, cs3, rfl⟩ := List.exists_cons_of_length_pos (l := cs) (by rw [← HMC.out]; exact HNE.out)
              obtain ⟨g, off, cap9, e9, hcap9, -⟩ := R.wnd.head
              injection e9 with e91 e92 e93
              subst e91 e93
              have HEM : Hid (m - 1 = ws3.length) := Lib.hid (by omega)
              obtain ⟨u0, v0, p1, p2, p3, p4, p5⟩ := R.msg 0 c3 rfl
              obtain ⟨ou, lu, cu, rfl⟩ : ∃ ou lu cu, u = .slice ou lu cu := by
                simp at p1
                subst p1
                rcases ownsRow_forms p3 with ⟨h, h0⟩ | ⟨g, cp, h⟩
                · exact ⟨_, _, _, h⟩
                · exact ⟨_, _, _, h⟩
              have tk := Take_ok R.net (by have := HN2.out; unfold maxLen; omega) HKL.out (by omega) (by omega) (by omega) (by omega) (by omega) R.row (by have := R.lu; have := R.le; omega) R.one (i := 0) rfl
              have HTK := Lib.hid tk; have HRR := Lib.hid R
              have hs1 := slice_one g off m c9 HNE.out
              have z1 : (((m : Nat) : Int) == 0) = false := by have := HNE.out; simp; omega
              have z2 : decide ((0 : Int) < ((m : Nat) : Int)) = true := decide_eq_true (by have := HNE.out; omega)
              clear tk p1 p2 p3 p4 R
              go_wp2_with fail
              refine HTK.out.mono ?_
              intro e w5 hp
              obtain ⟨rfl, -⟩ := id hp
              obtain ⟨hcell, hu, hv, f5, n5, hn5, R5⟩ := rr_pop HRR.out HB1.out HB2.out hp
              have HU := Lib.hid hu; have HV := Lib.hid hv; have HR5 := Lib.hid R5
              clear hp hu hv R5 HTK cy2
              go_wp2_with fail
              refine (Same_any _ _ c3 c3 _ HU.out HV.out (by unfold maxLen; omega) (by unfold maxLen; omega)).mono ?_
              rintro e w6 ⟨rfl, hb6⟩
              have ex : decide (c3 = c3) = true := decide_eq_true rfl
              have HR6 := Lib.hid (HR5.out.below hb6)
              have R7 := HR6.out
              rw [apply_ite some, HEM.out] at R7
              have HR7 := Lib.hid R7
              clear hb6 hcell R7
              go_wp2_with fail
              go_roundw
              case rel => exact ⟨k + 1, n5, f5, us3, ws3, cs3, by omega, by go_num, by have := HN2.out; omega, HR7.out⟩
              case measure => simp [intOf]; omega
          · have e5 : decide ((k : Int) < (tl : Int)) = false := decide_eq_false (by omega)
            go_wp2_with fail
            go_roundw
            case rel => exact ⟨k + 1, n, f, us, ws, cs, by omega, by go_num, by have := HN2.out; omega, HR3.out⟩
            case measure => simp [intOf]; omega
        · have e3 : ((m : Int) == (most : Int)) = false := by simp; omega
          go_wp2_with fail
          refine (Send_ok HR.out.net (by have := HN2.out; unfold maxLen; omega) HKL.out (by omega) (by omega) (by omega) (by omega) (by omega) HR.out.row (by have := HR.out.lu; have := HMC.out; omega) (by omega) ((bytes_src HBY.out).below HR.out.bel) (by rw [by8_len]; omega) (by8_one _)).mono ?_
          intro e w3 hp
          obtain ⟨rfl, -⟩ := id hp
          obtain ⟨v9', w4, us2, f2, hr, R'⟩ := rr_push HR.out (by have := HMC.out; omega) h2 HB1.out HB2.out hp (bytes_reads HBY.out) (by omega)
          obtain ⟨ws2, hws2⟩ : ∃ z, z = ws ++ [.slice op.ob op.lb op.cb] := ⟨_, rfl⟩
          obtain ⟨cs2, hcs2⟩ : ∃ z, z = cs ++ [op.zs.take op.lb] := ⟨_, rfl⟩
          rw [← hws2, ← hcs2] at R'
          obtain ⟨m2, hm2⟩ : ∃ z, z = cs2.length := ⟨_, rfl⟩
          obtain ⟨o92, c92, e92⟩ := R'.wnd.form
          rw [R'.lw, ← hm2] at e92
          subst e92
          have HNE : Hid (1 ≤ m2) := Lib.hid (by rw [hm2, hcs2]; simp)
          have HN3 : Hid (n + 1 ≤ 2 * k + 1) := Lib.hid (by have := HN2.out; omega)
          have HR3 := Lib.hid R'; have HMC3 := Lib.hid hm2
          clear hp HN2 HMC R' hm2 hws2 hcs2 HR cx2 hl2 hfull hmm
          have HN2 := HN3
          have HMC := HMC3
          clear HN3 HMC3
          go_wp2_with (at_builtin; refine wpList_append_run rfl rfl (s := .tmp 56) (x := .tmp 58) (t := 29) rfl rfl hr ?_)
          have q1 := Waits_ok HR3.out.net (by omega) HKL.out HR3.out.row
          rw [HR3.out.lu, ← HMC.out] at q1
          have q2 := Waits_ok HR3.out.net (by omega) HKB.out (us := []) (by rw [HR3.out.nb]; exact World.ownsRow_nil _ _ _ _)
          have q3 := Waits_ok HR3.out.net (by omega) HKC.out (us := []) (by rw [HR3.out.nc]; exact World.ownsRow_nil _ _ _ _)
          have HQ1 := Lib.hid q1; have HQ2 := Lib.hid q2; have HQ3 := Lib.hid q3
          clear q1 q2 q3
          go_wp2_with fail
          refine HQ1.out.mono ?_
          rintro e wz ⟨rfl, rfl⟩
          go_wp2_with fail
          refine HQ2.out.mono ?_
          rintro e wz ⟨rfl, rfl⟩
          go_wp2_with fail
          refine HQ3.out.mono ?_
          rintro e wz ⟨rfl, rfl⟩
          clear HQ1 HQ2 HQ3
          by_cases hkt : k < tl
          · have e5 : decide ((k : Int) < (tl : Int)) = true := decide_eq_true (by omega)
            obtain ⟨y, rfl, hy⟩ := HTT.out.2 (by omega)
            have cy := hy k hkt
            have cy2 := (HR3.out.bel.cell (lt_of_cell cy)).trans cy
            clear hy cy
            cases hT : T k with
            | false =>
              rw [hT] at cy2
              go_wp2_with fail
              go_roundw
              case rel => exact ⟨k + 1, (n + 1), f2, us2, ws2, cs2, by omega, by go_num, by have := HN2.out; omega, HR3.out⟩
              case measure => simp [intOf]; omega
            | true =>
              rw [hT] at cy2
              have R := HR3.out
              obtain ⟨u, us3, rfl⟩ := List.exists_cons_of_length_pos (l := us2) (by rw [R.lu, ← HMC.out]; exact HNE.out)
              obtain ⟨v, ws3, rfl⟩ := List.exists_cons_of_length_pos (l := ws2) (by rw [R.lw, ← HMC.out]; exact HNE.out)
              obtain ⟨c3, cs3, rfl⟩ := List.exists_cons_of_length_pos (l := cs2) (by rw [← HMC.out]; exact HNE.out)
              obtain ⟨g, off, cap9, e9, hcap9, -⟩ := R.wnd.head
              injection e9 with e91 e92 e93
              subst e91 e93
              have HEM : Hid (m2 - 1 = ws3.length) := Lib.hid (by omega)
              obtain ⟨u0, v0, p1, p2, p3, p4, p5⟩ := R.msg 0 c3 rfl
              obtain ⟨ou, lu, cu, rfl⟩ : ∃ ou lu cu, u = .slice ou lu cu := by
                simp at p1
                subst p1
                rcases ownsRow_forms p3 with ⟨h, h0⟩ | ⟨g, cp, h⟩
                · exact ⟨_, _, _, h⟩
                · exact ⟨_, _, _, h⟩
              have tk := Take_ok R.net (by have := HN2.out; unfold maxLen; omega) HKL.out (by omega) (by omega) (by omega) (by omega) (by omega) R.row (by have := R.lu; have := R.le; omega) R.one (i := 0) rfl
              have HTK := Lib.hid tk; have HRR := Lib.hid R
              have hs1 := slice_one g off m2 c92 HNE.out
              have z1 : (((m2 : Nat) : Int) == 0) = false := by have := HNE.out; simp; omega
              have z2 : decide ((0 : Int) < ((m2 : Nat) : Int)) = true := decide_eq_true (by have := HNE.out; omega)
              clear tk p1 p2 p3 p4 R
              go_wp2_with fail
              refine HTK.out.mono ?_
              intro e w5 hp
              obtain ⟨rfl, -⟩ := id hp
              obtain ⟨hcell, hu, hv, f5, n5, hn5, R5⟩ := rr_pop HRR.out HB1.out HB2.out hp
              have HU := Lib.hid hu; have HV := Lib.hid hv; have HR5 := Lib.hid R5
              clear hp hu hv R5 HTK cy2
              go_wp2_with fail
              refine (Same_any _ _ c3 c3 _ HU.out HV.out (by unfold maxLen; omega) (by unfold maxLen; omega)).mono ?_
              rintro e w6 ⟨rfl, hb6⟩
              have ex : decide (c3 = c3) = true := decide_eq_true rfl
              have HR6 := Lib.hid (HR5.out.below hb6)
              have R7 := HR6.out
              rw [apply_ite some, HEM.out] at R7
              have HR7 := Lib.hid R7
              clear hb6 hcell R7
              go_wp2_with fail
              go_roundw
              case rel => exact ⟨k + 1, n5, f5, us3, ws3, cs3, by omega, by go_num, by have := HN2.out; omega, HR7.out⟩
              case measure => simp [intOf]; omega
          · have e5 : decide ((k : Int) < (tl : Int)) = false := decide_eq_false (by omega)
            go_wp2_with fail
            go_roundw
            case rel => exact ⟨k + 1, (n + 1), f2, us2, ws2, cs2, by omega, by go_num, by have := HN2.out; omega, HR3.out⟩
            case measure => simp [intOf]; omega
    · have e1 : decide ((k : Int) < (len : Int)) = false := decide_eq_false (by omega)
      have q1 := Waits_ok HR.out.net (by omega) HKL.out HR.out.row
      rw [HR.out.lu, ← HMC.out] at q1
      have HQ1 := Lib.hid q1
      clear q1
      go_wp2_with fail
      refine HQ1.out.mono ?_
      rintro e wz ⟨rfl, rfl⟩
      go_wp2_with fail
      go_ret
      exact ⟨rfl, HR.out.bel⟩
theorem LinkRows_row (most : Int) (oa : Option Addr) (len cap : Nat) (O : Nat → OpB) (ta : Option Addr) (tl tc : Nat) (T : Nat → Bool) (w : World) (hw : (Lit.int .i64 most).wf = true) (hO : IsLists w oa len cap O) (hT : IsBools w ta tl tc T) :
    Calls Try.prog 4 #[.int .i64 most, .slice oa len cap, .slice ta tl tc] w fun e w' => e = .returned (.bool true) ∧ Below w.heap.size w w' := by
  have hlen := hO.1
  unfold maxLen at hlen
  by_cases a1 : most < 1
  · exact LinkRows_low most oa ta len cap tl tc w a1
  by_cases a2 : 64 < most
  · exact LinkRows_high most oa ta len cap tl tc w (by omega) a2
  by_cases a3 : 60 < len
  · exact LinkRows_long most oa ta len cap tl tc w (by omega) (by omega) a3
  obtain ⟨q, rfl⟩ : ∃ q : Nat, most = q := ⟨most.toNat, by omega⟩
  exact LinkRows_main q oa ta len cap tl tc O T w (by omega) (by omega) (by omega) hO hT
end Go.Proofs.Ytklkhlipecphkaa
