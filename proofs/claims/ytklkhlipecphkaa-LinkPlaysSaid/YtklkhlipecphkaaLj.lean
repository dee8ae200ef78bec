/- Link: the law LinkNone. -/
import Derived.Test.YtklkhlipecphkaaLi
namespace Go.Proofs.Ytklkhlipecphkaa
open Go.RowKit Go.Joins Go.Maps
set_option maxRecDepth 100000
set_option linter.unusedVariables false

def opObj (o : OpB) : Obj := .cells #[.int .i64 o.k, .int .i64 o.f, .int .i64 o.t, .int .i64 o.i, .int .i64 o.b, .slice o.ob o.lb o.cb] 79
theorem opcells {W : World} {b : Nat} {o : OpB} (h : W.heap[b]? = some (opObj o)) : W.cell? ⟨b, 1, none⟩ = some (.int .i64 o.f) ∧ W.cell? ⟨b, 2, none⟩ = some (.int .i64 o.t) ∧ W.cell? ⟨b, 3, none⟩ = some (.int .i64 o.i) ∧ W.cell? ⟨b, 4, none⟩ = some (.int .i64 o.b) ∧ W.cell? ⟨b, 5, none⟩ = some (.slice o.ob o.lb o.cb) := by
  refine ⟨?_, ?_, ?_, ?_, ?_⟩ <;> simp [World.cell?, h, opObj]
set_option maxHeartbeats 4000000 in
theorem LinkNone_long (oa : Option Addr) (len cap : Nat) (w : World) (h : 100 < len) : Calls Try.prog 11 #[.slice oa len cap] w fun e w' => e = .returned (.bool true) ∧ Below w.heap.size w w' := by
  go_enter Try.func11, Try.ntmps11
  go_wp2_with fail
  refine (awake16_yes _).mono ?_
  rintro e w1 ⟨rfl, hb1⟩
  have HB1 := Lib.hid hb1
  clear hb1
  go_wp2_with fail
  refine (few_long oa len cap w1 h).mono ?_
  rintro e w2 ⟨rfl, hb2⟩
  have HB2 := Lib.hid (HB1.out.trans (hb2.mono HB1.out.size))
  clear hb2
  go_wp2_with fail
  go_ret
  exact ⟨rfl, HB2.out⟩
set_option maxHeartbeats 8000000 in
theorem LinkNone_main (oa : Option Addr) (len cap : Nat) (O : Nat → OpB) (w : World) (h : len ≤ 100) (hO : IsOpBs w oa len cap O) : Calls Try.prog 11 #[.slice oa len cap] w fun e w' => e = .returned (.bool true) ∧ Below w.heap.size w w' := by
  have HO := Lib.hid hO
  clear hO
  go_enter Try.func11, Try.ntmps11
  go_wp2_with fail
  refine (awake16_yes _).mono ?_
  rintro e w1 ⟨rfl, hb1⟩
  have HB1 := Lib.hid hb1
  clear hb1
  go_wp2_with fail
  refine (few_any oa len cap O w1 h (HO.out.below HB1.out)).mono ?_
  rintro e w2 ⟨he, hb2⟩
  have HB2 := Lib.hid (HB1.out.trans (hb2.mono HB1.out.size))
  clear hb2
  rcases he with rfl | ⟨rfl, hsm⟩
  · go_wp2_with fail
    go_ret
    exact ⟨rfl, HB2.out⟩
  have HSM := Lib.hid hsm
  clear hsm
  go_wp2_with fail
  obtain ⟨W, hW⟩ : ∃ W, W = (w2.alloc (Obj.cells #[.int .i64 0, .int .i64 0, .map none] 88)).alloc (Obj.cells #[.pointer none, .pointer (some ⟨w2.heap.size, 0, none⟩)] 31) := ⟨_, rfl⟩
  have c0 : W.cell? ⟨w2.heap.size + 1, 0, none⟩ = some (.pointer none) := by rw [hW]; simp [go_sem]
  have c1 : W.cell? ⟨w2.heap.size + 1, 1, none⟩ = some (.pointer (some ⟨w2.heap.size, 0, none⟩)) := by rw [hW]; simp [go_sem]
  have n0 : NoNet W none := .inl rfl
  have n1 : NoNet W (some ⟨w2.heap.size, 0, none⟩) := .inr ⟨_, rfl, by rw [hW]; simp [go_sem]⟩
  have hs2 := HB2.out.size
  have hbW : Below w.heap.size w W := by rw [hW]; exact (HB2.out.alloc hs2 _).alloc (by simp; omega) _
  rw [← hW]
  have HOW := Lib.hid (HO.out.below hbW); have HBW := Lib.hid hbW
  have HC := Lib.hid (⟨c0, c1, n0, n1⟩ : _ ∧ _ ∧ _ ∧ _)
  clear hW c0 c1 n0 n1 hbW hs2
  go_loopw [5, 7, 8, 9, 10, 11, 22] (fun _ _ _ _ _ _ i wr => ∃ k : Nat, k ≤ 2 ∧ i = .int .i64 (k : Int) ∧ Below W.heap.size W wr) (fun _ _ _ _ _ _ i _ => 2 - (intOf i).toNat)
  case atStart => exact ⟨0, by omega, rfl, Below.refl _ _⟩
  case round =>
    obtain ⟨k, hk, rfl, hBw⟩ := hrel
    obtain ⟨wo, rfl⟩ : ∃ wo, wo = wr := ⟨_, rfl⟩
    have HBR := Lib.hid hBw
    clear hBw
    by_cases hlt : k < 2
    · obtain ⟨p, hp, hc⟩ : ∃ p, NoNet wo p ∧ wo.cell? ⟨w2.heap.size + 1, k, none⟩ = some (.pointer p) := by
        obtain ⟨c0, c1, n0, n1⟩ := HC.out
        rcases Nat.lt_or_ge k 1 with h | h
        · obtain rfl : k = 0 := by omega
          exact ⟨_, n0.below HBR.out, (HBR.out.cell (lt_of_cell c0)).trans c0⟩
        · obtain rfl : k = 1 := by omega
          exact ⟨_, n1.below HBR.out, (HBR.out.cell (lt_of_cell c1)).trans c1⟩
      have HP := Lib.hid hp
      clear hp
      have e1 : decide ((k : Int) < 2) = true := decide_eq_true (by omega)
      go_wp2_with fail
      go_loopw [7, 8, 9, 10, 11, 28] (fun _ _ _ _ _ i W => ∃ j : Nat, j ≤ len ∧ i = .int .i64 (j : Int) ∧ Below wo.heap.size wo W) (fun _ _ _ _ _ i _ => len - (intOf i).toNat)
      case atStart => exact ⟨0, Nat.zero_le _, rfl, Below.refl _ _⟩
      case round =>
        obtain ⟨j, hj, rfl, hBv⟩ := hrel
        by_cases hjl : j < len
        · have cbw : Below W.heap.size W wr := HBR.out.trans (hBv.mono HBR.out.size)
          obtain ⟨x, rfl, hx⟩ := HOW.out.2 (by omega)
          have ho := (hx j hjl).below cbw
          obtain ⟨op, hop⟩ : ∃ op, op = O j := ⟨_, rfl⟩
          rw [← hop] at ho
          have HT0 := Lib.hid ((MapKept.heap_alloc wr (opObj op)).1)
          have HB0 := Lib.hid ((Below.refl _ wr).alloc (Nat.le_refl _) (opObj op))
          have HP0 := Lib.hid ((HP.out.below hBv).below HB0.out)
          have HBV := Lib.hid hBv
          obtain ⟨k0, k1, k2, k3, k4, k5, hby, hlc⟩ := ho
          clear hop hx hBv hby hc cbw
          unfold maxLen at hlc
          have e2 : decide ((j : Int) < (len : Int)) = true := decide_eq_true (by omega)
          go_wp2_with fail
          clear k0 k1 k2 k3 k4 k5
          refine (Take_no HP0.out op.f op.t op.i).mono ?_
          rintro e w11 ⟨rfl, hb⟩
          have HP1 := Lib.hid (HP0.out.below hb)
          have HB1 := Lib.hid (HB0.out.trans (hb.mono HB0.out.size))
          have HT1 := Lib.hid ((hb.block _ (Array.getElem?_eq_some_iff.1 HT0.out).1).trans HT0.out)
          clear hb
          obtain ⟨f1, t1, i1, b1, v1⟩ := opcells HT1.out
          go_wp2_with fail
          refine (Next_no19 HP1.out op.t).mono ?_
          rintro e w12 ⟨rfl, hb⟩
          have HP2 := Lib.hid (HP1.out.below hb)
          have HB2 := Lib.hid (HB1.out.trans (hb.mono HB1.out.size))
          have HT2 := Lib.hid ((hb.block _ (Array.getElem?_eq_some_iff.1 HT1.out).1).trans HT1.out)
          clear hb f1 t1 i1 b1 v1
          obtain ⟨f2, t2, i2, b2, v2⟩ := opcells HT2.out
          go_wp2_with fail
          refine (Send_no HP2.out op.f op.t _).mono ?_
          rintro e w13 ⟨rfl, hb⟩
          have HP3 := Lib.hid (HP2.out.below hb)
          have HB3 := Lib.hid (HB2.out.trans (hb.mono HB2.out.size))
          have HT3 := Lib.hid ((hb.block _ (Array.getElem?_eq_some_iff.1 HT2.out).1).trans HT2.out)
          clear hb f2 t2 i2 b2 v2
          obtain ⟨f3, t3, i3, b3, v3⟩ := opcells HT3.out
          go_wp2_with fail
          refine (Drop_no HP3.out op.f op.t op.i).mono ?_
          rintro e w14 ⟨rfl, hb⟩
          have HP4 := Lib.hid (HP3.out.below hb)
          have HB4 := Lib.hid (HB3.out.trans (hb.mono HB3.out.size))
          have HT4 := Lib.hid ((hb.block _ (Array.getElem?_eq_some_iff.1 HT3.out).1).trans HT3.out)
          clear hb f3 t3 i3 b3 v3
          obtain ⟨f4, t4, i4, b4, v4⟩ := opcells HT4.out
          go_wp2_with fail
          refine (Double_no HP4.out op.f op.t op.i).mono ?_
          rintro e w15 ⟨rfl, hb⟩
          have HP5 := Lib.hid (HP4.out.below hb)
          have HB5 := Lib.hid (HB4.out.trans (hb.mono HB4.out.size))
          have HT5 := Lib.hid ((hb.block _ (Array.getElem?_eq_some_iff.1 HT4.out).1).trans HT4.out)
          clear hb f4 t4 i4 b4 v4
          obtain ⟨f5, t5, i5, b5, v5⟩ := opcells HT5.out
          go_wp2_with fail
          refine (Flip_no HP5.out op.f op.t op.i op.b).mono ?_
          rintro e w16 ⟨rfl, hb⟩
          have HP6 := Lib.hid (HP5.out.below hb)
          have HB6 := Lib.hid (HB5.out.trans (hb.mono HB5.out.size))
          have HT6 := Lib.hid ((hb.block _ (Array.getElem?_eq_some_iff.1 HT5.out).1).trans HT5.out)
          clear hb f5 t5 i5 b5 v5
          obtain ⟨f6, t6, i6, b6, v6⟩ := opcells HT6.out
          go_wp2_with fail
          refine (Waits_no HP6.out op.f op.t).mono ?_
          rintro e w17 ⟨rfl, hb⟩
          have HP7 := Lib.hid (HP6.out.below hb)
          have HB7 := Lib.hid (HB6.out.trans (hb.mono HB6.out.size))
          have HT7 := Lib.hid ((hb.block _ (Array.getElem?_eq_some_iff.1 HT6.out).1).trans HT6.out)
          clear hb f6 t6 i6 b6 v6
          obtain ⟨f7, t7, i7, b7, v7⟩ := opcells HT7.out
          go_wp2_with fail
          go_roundw
          case rel => exact ⟨j + 1, by omega, by go_num, HBV.out.trans (HB7.out.mono HBV.out.size)⟩
          case measure => simp [intOf]; omega
        · have e2 : decide ((j : Int) < (len : Int)) = false := decide_eq_false (by omega)
          have HBV := Lib.hid hBv; have HPV := Lib.hid (HP.out.below hBv)
          clear hBv hc
          go_wp2_with fail
          refine (Bytes_no HPV.out).mono ?_
          rintro e wz ⟨rfl, hb⟩
          have HBZ := Lib.hid (HBV.out.trans (hb.mono HBV.out.size))
          clear hb
          go_wp2_with fail
          go_roundw
          case rel => exact ⟨k + 1, by omega, by go_num, HBR.out.trans (HBZ.out.mono HBR.out.size)⟩
          case measure => simp [intOf]; omega
    · have e1 : decide ((k : Int) < 2) = false := decide_eq_false (by omega)
      go_wp2_with fail
      go_ret
      exact ⟨rfl, HBW.out.trans (HBR.out.mono HBW.out.size)⟩
end Go.Proofs.Ytklkhlipecphkaa
