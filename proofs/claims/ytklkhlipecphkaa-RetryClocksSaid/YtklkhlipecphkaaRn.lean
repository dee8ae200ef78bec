/- Retry: the law RetryClocks. -/
import Derived.Test.YtklkhlipecphkaaRm
namespace Go.Proofs.Ytklkhlipecphkaa
open Go.RowKit Go.Joins Go.Maps
set_option maxRecDepth 100000
set_option linter.unusedVariables false

theorem o_cells {X : World} {T0 : Nat} {a b : Int} (h : X.heap[T0]? = some (.cells #[.int .i64 a, .int .i64 b] 65 (0, 0))) : X.cell? ⟨T0, 0, none⟩ = some (.int .i64 a) ∧ X.cell? ⟨T0, 1, none⟩ = some (.int .i64 b) := by
  constructor <;> simp [World.cell?, h]
theorem ref65 (c : Array Value) (fz : Nat × Nat) : isRef (.cells c 65 fz) := ⟨c, fz, .inr (.inr rfl)⟩
theorem clk65 (c : Array Value) (fz : Nat × Nat) : isClk (.cells c 65 fz) := .inr ⟨c, fz, .inr rfl⟩
theorem Clk.drew {N B M : Nat} {base most now : Int} {f : Int → Option (Int × Int)} {n : Nat} {w : World} (h : Clk N B M base most now f n w) : Clk N B M base most now f n w.drew := ⟨h.hB, h.hM, h.ne, h.box, h.map⟩
theorem RelM.had {f : Int → Option (Int × Int)} {L : List Tm} {K : Nat} (h : RelM f L K) (x : Int) : decide ((flt L x L.length).length < L.length) = (f x).isSome := by
  rw [flt_all]
  cases hf : f x with
  | none =>
    have : L.filter (fun t => !(t.1 == x)) = L := by
      rw [List.filter_eq_self]
      intro t ht
      have h1 := h.mem t ht
      have : t.1 ≠ x := fun e => by rw [e, hf] at h1; cases h1
      simpa using this
    rw [this]; simp
  | some p =>
    obtain ⟨i, hi, he, _⟩ := h.toRel.find hf
    have hlt : (L.filter (fun t => !(t.1 == x))).length < L.length := by
      rcases Nat.lt_or_ge (L.filter (fun t => !(t.1 == x))).length L.length with h' | h'
      · exact h'
      · exfalso
        have heq := List.Sublist.eq_of_length_le (List.filter_sublist (p := fun t => !(t.1 == x)) (l := L)) h'
        have hm : tm L i ∈ L.filter (fun t => !(t.1 == x)) := by rw [heq]; exact tm_mem hi
        have := (List.mem_filter.1 hm).2
        rw [he] at this
        simp at this
    simp [hlt]

theorem Addr.add_add' (a : Addr) (i j : Nat) : (a.add i).add j = a.add (i + j) := by
  unfold Addr.add
  by_cases h1 : i = 0
  · subst h1; simp
  · by_cases h2 : j = 0
    · subst h2; simp [h1]
    · simp [h1, h2, Nat.add_assoc]

theorem le_of_below {w W : World} {o : Obj} {N : Nat} (h : Below N (w.alloc o) W) : w.heap.size + 1 ≤ W.heap.size := by
  have z := h.size
  rw [World.size_alloc] at z
  exact z

set_option maxHeartbeats 1000000 in
theorem RetryClocks_long (a b x : Int) (oa : Option Addr) (len cap : Nat) (w : World) (h : 80 < len) (hl : len ≤ maxLen) : Calls Try.prog 8 #[.agg #[.int .i64 a, .int .i64 b], .slice oa len cap, .int .i64 x] w (Yes w) := by
  have d1 : decide ((80 : Int) < (len : Int)) = true := decide_eq_true (by omega)
  go_enter Try.func8, Try.ntmps8
  go_wp2_with fail
  refine (awake_any _).mono ?_
  rintro e w1 ⟨rfl, hb1⟩
  go_wp2_with fail
  go_ret
  exact ⟨rfl, ((Below.refl _ _).alloc (Nat.le_refl _) _).trans (hb1.mono (by simp))⟩
set_option maxHeartbeats 1000000 in
theorem RetryClocks_not (a b x : Int) (oa : Option Addr) (len cap : Nat) (w : World) (h : ¬ 80 < len) (h3 : ¬ (1 ≤ a ∧ a ≤ 1024 ∧ a ≤ b ∧ b ≤ 1024)) : Calls Try.prog 8 #[.agg #[.int .i64 a, .int .i64 b], .slice oa len cap, .int .i64 x] w (Yes w) := by
  have d1 : decide ((80 : Int) < (len : Int)) = false := decide_eq_false (by omega)
  have HD := Lib.hid (decide_eq_false h3)
  go_enter Try.func8, Try.ntmps8
  go_wp2_with fail
  refine (awake_any _).mono ?_
  rintro e w1 ⟨rfl, hb1⟩
  have hB1 : Below (w.heap.size + 1) (w.alloc (Obj.cells #[.int .i64 a, .int .i64 b] 54)) w1 := hb1.mono (by simp)
  clear hb1
  obtain ⟨k0, k1⟩ := rule_cells hB1
  go_wp2_with fail
  refine (New_no a b _ h3).mono ?_
  rintro e w2 ⟨rfl, rfl⟩
  go_wp2_with fail
  refine (rRight_any _ _ _).mono ?_
  rintro e w3 ⟨rfl, rfl⟩
  rw [HD.out]
  go_wp2_with fail
  go_ret
  exact ⟨rfl, ((Below.refl _ _).alloc (Nat.le_refl _) _).trans (hB1.mono (by omega))⟩

set_option maxHeartbeats 16000000 in
theorem RetryClocks_yes (a b : Nat) (x : Int) (oa : Option Addr) (len cap : Nat) (O : Nat → Int × Int) (w : World) (h : len ≤ 80) (h0 : 1 ≤ a) (h1 : a ≤ b) (h2 : b ≤ 1024) (hx : (Lit.int .i64 x).wf = true)
    (hc : ∀ j, j < len → ∃ ad, oa = some ad ∧ w.cell? (ad.add (j * 2)) = some (.int .i64 (O j).1) ∧ w.cell? (ad.add (j * 2 + 1)) = some (.int .i64 (O j).2)) (hw : ∀ j, j < len → (Lit.int .i64 (O j).2).wf = true) :
    Calls Try.prog 8 #[.agg #[.int .i64 (a : Int), .int .i64 (b : Int)], .slice oa len cap, .int .i64 x] w (Yes w) := by
  have d1 : decide ((80 : Int) < (len : Int)) = false := decide_eq_false (by omega)
  have HD := Lib.hid (decide_eq_true (show 1 ≤ (a : Int) ∧ (a : Int) ≤ 1024 ∧ (a : Int) ≤ (b : Int) ∧ (b : Int) ≤ 1024 by omega))
  have HC := Lib.hid hc
  have HW := Lib.hid hw
  clear hc hw
  go_enter Try.func8, Try.ntmps8
  go_wp2_with fail
  refine (awake_any _).mono ?_
  rintro e w1 ⟨rfl, hb1⟩
  have hB1 : Below (w.heap.size + 1) (w.alloc (Obj.cells #[.int .i64 (a : Int), .int .i64 (b : Int)] 54)) w1 := hb1.mono (by simp)
  have hs1 : w.heap.size + 1 ≤ w1.heap.size := by have := hB1.size; simp at this; exact this
  clear hb1
  obtain ⟨k0, k1⟩ := rule_cells hB1
  go_wp2_with fail
  refine (New_yes a b _ h0 h1 h2).mono ?_
  rintro e w2 ⟨B, Mb, rfl, hk2, hb2⟩
  have HK2 := Lib.hid (hk2.mono hs1)
  have HB2 := Lib.hid (hB1.trans (hb2.mono hs1))
  clear hk2 hb2 k0 k1
  obtain ⟨k0, k1⟩ := rule_cells HB2.out
  go_wp2_with fail
  refine (rRight_any _ _ _).mono ?_
  rintro e w3 ⟨rfl, rfl⟩
  rw [HD.out]
  have hs2 : w.heap.size + 1 ≤ w3.heap.size := by have := HB2.out.size; simp at this; exact this
  have HK3 := Lib.hid (HK2.out.below ((Below.refl _ w3).alloc (Nat.le_refl _) (Obj.cells #[.int .i64 (a : Int), .int .i64 (b : Int), .int .i64 0, .slice none 0 0] 63)))
  have HB3 := Lib.hid (HB2.out.alloc hs2 (Obj.cells #[.int .i64 (a : Int), .int .i64 (b : Int), .int .i64 0, .slice none 0 0] 63))
  have HR3 := Lib.hid (show Ref (w.heap.size + 1) w3.heap.size (.slice none 0 0) (a : Int) (b : Int) 0 [] (w3.alloc (Obj.cells #[.int .i64 (a : Int), .int .i64 (b : Int), .int .i64 0, .slice none 0 0] 63)) from ⟨hs2, (MapKept.heap_alloc w3 _).1, World.ownsRow_nil _ _ _ _⟩)
  obtain ⟨B', hB'⟩ : ∃ B', B' = w3.heap.size := ⟨_, rfl⟩
  go_wp2_with fail
  rw [← hB'] at HR3 ⊢
  clear hB' k0 k1
  go_loopw [11, 12, 52] (fun _ _ i wr => ∃ (k nn : Nat) (T : Int) (f : Int → Option (Int × Int)) (L : List Tm) (v : Value), k ≤ len ∧ i = .int .i64 (k : Int) ∧ 0 ≤ T ∧ T ≤ 1125899906842624 ∧ L.length ≤ k ∧ nn ≤ k ∧ RelM f L k ∧
      Clk (w.heap.size + 1) B Mb (a : Int) (b : Int) T f nn wr ∧ Ref (w.heap.size + 1) B' v (a : Int) (b : Int) T L wr ∧ Below (w.heap.size + 1) (w.alloc (Obj.cells #[.int .i64 (a : Int), .int .i64 (b : Int)] 54)) wr) (fun _ _ i _ => len - (intOf i).toNat)
  case atStart => exact ⟨0, 0, 0, _, [], _, Nat.zero_le _, rfl, by omega, by omega, Nat.zero_le _, Nat.zero_le _, RelM.start0, HK3.out, HR3.out, HB3.out⟩
  case round =>
    obtain ⟨k, nn, T, f, L, v, hk, rfl, hT0, hT1, hLk, hnk, hrel, hclk, href, hbl⟩ := hrel
    have HREL := Lib.hid hrel
    have HK := Lib.hid hclk
    have HR := Lib.hid href
    have HBL := Lib.hid hbl
    clear hrel hclk href hbl
    by_cases hlt : k < len
    · obtain ⟨ad, rfl, y0, y1⟩ := HC.out k hlt
      have hyw := HW.out k hlt
      have hbw : Below w.heap.size w wr := ((Below.refl _ _).alloc (Nat.le_refl _) _).trans (HBL.out.mono (by omega))
      have x0 := (hbw.cell (World.block_lt_of_cell? _ _ y0)).trans y0
      have x1 := (hbw.cell (World.block_lt_of_cell? _ _ y1)).trans y1
      clear y0 y1 hbw
      obtain ⟨q, hq⟩ : ∃ q, q = O k := ⟨_, rfl⟩
      rw [← hq] at x0 x1 hyw
      rw [show ad.add (k * 2 + 1) = (ad.add (k * 2)).add 1 from (Addr.add_add' ad (k * 2) 1).symm] at x1
      clear hq
      obtain ⟨kd, y⟩ := q
      dsimp only at x0 x1 hyw
      have x1c : wr.cell? ⟨(ad.add (k * 2)).block, (ad.add (k * 2)).off + 1, none⟩ = some (.int .i64 y) := x1
      have hs : w.heap.size + 1 ≤ wr.heap.size := by have := HBL.out.size; simp at this; exact this
      have hal : Below wr.heap.size wr (wr.alloc (Obj.cells #[.int .i64 kd, .int .i64 y] 65)) := (Below.refl _ _).alloc (Nat.le_refl _) _
      have ho1 : (wr.alloc (Obj.cells #[.int .i64 kd, .int .i64 y] 65)).heap[wr.heap.size]? = some (.cells #[.int .i64 kd, .int .i64 y] 65 (0, 0)) := (MapKept.heap_alloc wr _).1
      have HK1 := Lib.hid (HK.out.below hal)
      have HR1 := Lib.hid (HR.out.keeps (Keeps.of_below hal))
      have HB1 := Lib.hid (HBL.out.alloc hs (Obj.cells #[.int .i64 kd, .int .i64 y] 65))
      have HO1 := Lib.hid ho1
      clear hal ho1
      by_cases hk1 : kd = 1
      · subst hk1
        go_wp2_with fail
        refine (Start_g HK1.out (by omega) (by unfold maxLen; omega) hyw).mono ?_
        rintro e w4 ⟨rfl, hk4, hb4, hkp4⟩
        have HO4 := Lib.hid (hkp4 _ _ (ref65 _ _) HO1.out)
        have HR4 := Lib.hid (HR1.out.keeps hkp4)
        have HB4 := Lib.hid (HB1.out.trans hb4)
        have HK4 := Lib.hid hk4
        obtain ⟨oa0, oa1⟩ := o_cells HO4.out
        clear hk4 hb4 hkp4
        go_wp2_with fail
        refine (rStart_any HR4.out y (by omega)).mono ?_
        rintro e w5 ⟨v5, rfl, hr5, hb5, hkp5⟩
        have HK5 := Lib.hid (HK4.out.keeps hkp5)
        have HR5 := Lib.hid hr5
        have HB5 := Lib.hid (HB4.out.trans hb5)
        have HO5 := Lib.hid (hkp5 _ _ (clk65 _ _) HO4.out)
        have HREL5 := Lib.hid ((HREL.out.start hyw T).mono (Nat.le_succ k))
        have HL5 := Lib.hid (show (flt L y L.length ++ [(y, T, 0)]).length ≤ k + 1 by rw [List.length_append]; have := flt_len L y L.length; simp; omega)
        have HN5 := Lib.hid (show nn + 1 ≤ k + 1 by omega)
        clear hr5 hb5 hkp5 oa0 oa1
        have HT5 := Lib.hid (show 0 ≤ T ∧ T ≤ 1125899906842624 from ⟨hT0, hT1⟩)
        obtain ⟨oc0, oc1⟩ := o_cells HO5.out
        have HS5 := Lib.hid (le_of_below HB5.out)
        go_wp2_with fail
        refine (told_any HK5.out (by omega) HR5.out (by have := HL5.out; omega) HREL5.out.toRel hx).mono ?_
        rintro e w6 ⟨rfl, hb6⟩
        have HK6 := Lib.hid (HK5.out.below hb6)
        have HR6 := Lib.hid (HR5.out.keeps (Keeps.of_below hb6))
        have HB6 := Lib.hid (HB5.out.trans (hb6.mono HS5.out))
        have HS6 := Lib.hid (Nat.le_trans HS5.out hb6.size)
        obtain ⟨od0, od1⟩ := o_cells (Keeps.of_below (S := isRef) hb6 _ _ (ref65 _ _) HO5.out)
        clear hb6 oc0 oc1
        go_wp2_with fail
        refine (told_any HK6.out (by omega) HR6.out (by have := HL5.out; omega) HREL5.out.toRel hyw).mono ?_
        rintro e w7 ⟨rfl, hb7⟩
        have HK7 := Lib.hid (HK6.out.below hb7)
        have HR7 := Lib.hid (HR6.out.keeps (Keeps.of_below hb7))
        have HB7 := Lib.hid (HB6.out.trans (hb7.mono HS6.out))
        clear hb7 od0 od1
        go_wp2_with fail
        go_roundw
        case rel => exact ⟨k + 1, _, _, _, _, _, by omega, by go_num, HT5.out.1, HT5.out.2, HL5.out, HN5.out, HREL5.out, HK7.out, HR7.out, HB7.out⟩
        case measure => simp [intOf]; omega
      by_cases hk2 : kd = 2
      · subst hk2
        have hso := HREL.out.had y
        obtain ⟨okb, hokb⟩ : ∃ okb, okb = (f y).isSome := ⟨_, rfl⟩
        have HSTC := Lib.hid (Stop_g HK1.out.drew (by omega) hyw)
        rw [← hokb] at hso HSTC
        have HRS := Lib.hid (fun W (hkp : Keeps isRef (wr.alloc (Obj.cells #[.int .i64 2, .int .i64 y] 65)).drew W) => rStop_any (HR1.out.drew.keeps hkp) y (by omega))
        rw [hso] at HRS
        obtain ⟨oa0, oa1⟩ := o_cells HO1.out
        clear hso hokb
        go_wp2_with fail
        go_region_held (fun W => W.cell? ⟨wr.heap.size, 1, none⟩ = some (.int .i64 y)) (first | exact oa1 | exact oc1 | exact ob1) (first | (go_at_call 25; refine HSTC.out.mono ?_; rintro e w4 ⟨rfl, hk4, hb4, hkp4⟩; have HO4 := Lib.hid (hkp4 _ _ (ref65 _ _) HO1.out); have ob1 := (o_cells HO4.out).2) | (go_at_call 34; refine (HRS.out _ hkp4).mono ?_; rintro e w5 ⟨v5, rfl, hr5, hb5, hkp5⟩; have HO5 := Lib.hid (hkp5 _ _ (clk65 _ _) HO4.out); have oc1 := (o_cells HO5.out).2))
        have HK5 := Lib.hid (hk4.keeps hkp5)
        have HR5 := Lib.hid hr5
        have HB5 := Lib.hid ((HB1.out.drew.trans hb4).trans hb5)
        have HREL5 := Lib.hid ((HREL.out.stop y).mono (Nat.le_succ k))
        have HL5 := Lib.hid (show (flt L y L.length).length ≤ k + 1 by have := flt_len L y L.length; omega)
        have HN5 := Lib.hid (show nn ≤ k + 1 by omega)
        clear hk4 hb4 hkp4 hr5 hb5 hkp5 oa0 oa1 ob1 oc1 HSTC HRS
        have HT5 := Lib.hid (show 0 ≤ T ∧ T ≤ 1125899906842624 from ⟨hT0, hT1⟩)
        obtain ⟨oc0, oc1⟩ := o_cells HO5.out
        have HS5 := Lib.hid (le_of_below HB5.out)
        go_wp2_with fail
        refine (told_any HK5.out (by omega) HR5.out (by have := HL5.out; omega) HREL5.out.toRel hx).mono ?_
        rintro e w6 ⟨rfl, hb6⟩
        have HK6 := Lib.hid (HK5.out.below hb6)
        have HR6 := Lib.hid (HR5.out.keeps (Keeps.of_below hb6))
        have HB6 := Lib.hid (HB5.out.trans (hb6.mono HS5.out))
        have HS6 := Lib.hid (Nat.le_trans HS5.out hb6.size)
        obtain ⟨od0, od1⟩ := o_cells (Keeps.of_below (S := isRef) hb6 _ _ (ref65 _ _) HO5.out)
        clear hb6 oc0 oc1
        go_wp2_with fail
        refine (told_any HK6.out (by omega) HR6.out (by have := HL5.out; omega) HREL5.out.toRel hyw).mono ?_
        rintro e w7 ⟨rfl, hb7⟩
        have HK7 := Lib.hid (HK6.out.below hb7)
        have HR7 := Lib.hid (HR6.out.keeps (Keeps.of_below hb7))
        have HB7 := Lib.hid (HB6.out.trans (hb7.mono HS6.out))
        clear hb7 od0 od1
        go_wp2_with fail
        go_roundw
        case rel => exact ⟨k + 1, _, _, _, _, _, by omega, by go_num, HT5.out.1, HT5.out.2, HL5.out, HN5.out, HREL5.out, HK7.out, HR7.out, HB7.out⟩
        case measure => simp [intOf]; omega
      by_cases hk3 : kd = 3
      · subst hk3
        cases hfy : f y with
        | none =>
          have hno : ∀ j, j < L.length → (tm L j).1 ≠ y := fun j hj e => by
            have z := HREL.out.mem _ (tm_mem hj)
            rw [e, hfy] at z
            cases z
          have HNO := Lib.hid hno
          have HTN := Lib.hid (Tried_none HK1.out (by omega) hyw hfy)
          clear hno hfy
          go_wp2_with fail
          refine (rTried_none HR1.out y (by omega) HNO.out).mono ?_
          rintro e w4 ⟨rfl, rfl⟩
          go_wp2_with fail
          refine HTN.out.mono ?_
          rintro e w5 ⟨rfl, hb5⟩
          have HK5 := Lib.hid (HK1.out.below hb5)
          have HR5 := Lib.hid (HR1.out.keeps (Keeps.of_below hb5))
          have HB5 := Lib.hid (HB1.out.trans (hb5.mono (le_of_below HB1.out)))
          have HO5 := Lib.hid (Keeps.of_below (S := isRef) hb5 _ _ (ref65 _ _) HO1.out)
          have HREL5 := Lib.hid (HREL.out.mono (Nat.le_succ k))
          have HL5 := Lib.hid (show L.length ≤ k + 1 by omega)
          have HN5 := Lib.hid (show nn ≤ k + 1 by omega)
          clear hb5
          have HT5 := Lib.hid (show 0 ≤ T ∧ T ≤ 1125899906842624 from ⟨hT0, hT1⟩)
          obtain ⟨oc0, oc1⟩ := o_cells HO5.out
          have HS5 := Lib.hid (le_of_below HB5.out)
          go_wp2_with fail
          refine (told_any HK5.out (by omega) HR5.out (by have := HL5.out; omega) HREL5.out.toRel hx).mono ?_
          rintro e w6 ⟨rfl, hb6⟩
          have HK6 := Lib.hid (HK5.out.below hb6)
          have HR6 := Lib.hid (HR5.out.keeps (Keeps.of_below hb6))
          have HB6 := Lib.hid (HB5.out.trans (hb6.mono HS5.out))
          have HS6 := Lib.hid (Nat.le_trans HS5.out hb6.size)
          obtain ⟨od0, od1⟩ := o_cells (Keeps.of_below (S := isRef) hb6 _ _ (ref65 _ _) HO5.out)
          clear hb6 oc0 oc1
          go_wp2_with fail
          refine (told_any HK6.out (by omega) HR6.out (by have := HL5.out; omega) HREL5.out.toRel hyw).mono ?_
          rintro e w7 ⟨rfl, hb7⟩
          have HK7 := Lib.hid (HK6.out.below hb7)
          have HR7 := Lib.hid (HR6.out.keeps (Keeps.of_below hb7))
          have HB7 := Lib.hid (HB6.out.trans (hb7.mono HS6.out))
          clear hb7 od0 od1
          go_wp2_with fail
          go_roundw
          case rel => exact ⟨k + 1, _, _, _, _, _, by omega, by go_num, HT5.out.1, HT5.out.2, HL5.out, HN5.out, HREL5.out, HK7.out, HR7.out, HB7.out⟩
          case measure => simp [intOf]; omega
        | some p =>
          obtain ⟨i, hi, hei, hpi⟩ := HREL.out.toRel.find hfy
          obtain ⟨tn, htn, htk⟩ := HREL.out.tr _ (tm_mem hi)
          obtain ⟨p1, p2⟩ := p
          have ht : tm L i = (y, p1, (tn : Int)) := by
            have e1 : (tm L i).2.1 = p1 := by rw [hpi]
            rw [← hei, ← htn, ← e1]
          have hp2 : p2 = (tn : Int) := by rw [← htn, hpi]
          subst hp2
          have hfst : ∀ j, j < i → (tm L j).1 ≠ y := fun j hj e => by
            have := HREL.out.inj j i (by omega) hi (by rw [e, hei])
            omega
          have HRT := Lib.hid (rTried_yes HR1.out y (by omega) hi ht hfst h0 h1 h2 (by omega) hT0 hT1)
          have HTG := Lib.hid (fun W (hkp : Keeps isClk (wr.alloc (Obj.cells #[.int .i64 3, .int .i64 y] 65)) W) => Tried_g (t := tn) (HK1.out.keeps hkp) h0 h1 h2 (by unfold maxLen; omega) hyw hfy (by omega) hT0 hT1)
          have HREL5 := Lib.hid (HREL.out.tried (a' := T + (M.wait a b (tn + 1) : Nat)) hi ht htk)
          have HL5 := Lib.hid (show (L.set i (y, T + (M.wait a b (tn + 1) : Nat), ((tn + 1 : Nat) : Int))).length ≤ k + 1 by rw [List.length_set]; omega)
          clear hfy hei hpi htn ht hfst
          go_wp2_with fail
          refine HRT.out.mono ?_
          rintro e w4 ⟨rfl, hr4, hb4, hkp4⟩
          have HO4 := Lib.hid (hkp4 _ _ (clk65 _ _) HO1.out)
          have HB4 := Lib.hid (HB1.out.trans hb4)
          have HR4 := Lib.hid hr4
          have HKP4 := Lib.hid hkp4
          obtain ⟨oa0, oa1⟩ := o_cells HO4.out
          clear hr4 hb4 hkp4
          go_wp2_with fail
          refine (HTG.out _ HKP4.out).mono ?_
          rintro e w5 ⟨rfl, hk5, hb5, hkp5⟩
          have HK5 := Lib.hid hk5
          have HR5 := Lib.hid (HR4.out.keeps hkp5)
          have HB5 := Lib.hid (HB4.out.trans hb5)
          have HO5 := Lib.hid (hkp5 _ _ (ref65 _ _) HO4.out)
          have HN5 := Lib.hid (show nn + 1 ≤ k + 1 by omega)
          clear hk5 hb5 hkp5 oa0 oa1 HTG HRT
          have HT5 := Lib.hid (show 0 ≤ T ∧ T ≤ 1125899906842624 from ⟨hT0, hT1⟩)
          obtain ⟨oc0, oc1⟩ := o_cells HO5.out
          have HS5 := Lib.hid (le_of_below HB5.out)
          go_wp2_with fail
          refine (told_any HK5.out (by omega) HR5.out (by have := HL5.out; omega) HREL5.out.toRel hx).mono ?_
          rintro e w6 ⟨rfl, hb6⟩
          have HK6 := Lib.hid (HK5.out.below hb6)
          have HR6 := Lib.hid (HR5.out.keeps (Keeps.of_below hb6))
          have HB6 := Lib.hid (HB5.out.trans (hb6.mono HS5.out))
          have HS6 := Lib.hid (Nat.le_trans HS5.out hb6.size)
          obtain ⟨od0, od1⟩ := o_cells (Keeps.of_below (S := isRef) hb6 _ _ (ref65 _ _) HO5.out)
          clear hb6 oc0 oc1
          go_wp2_with fail
          refine (told_any HK6.out (by omega) HR6.out (by have := HL5.out; omega) HREL5.out.toRel hyw).mono ?_
          rintro e w7 ⟨rfl, hb7⟩
          have HK7 := Lib.hid (HK6.out.below hb7)
          have HR7 := Lib.hid (HR6.out.keeps (Keeps.of_below hb7))
          have HB7 := Lib.hid (HB6.out.trans (hb7.mono HS6.out))
          clear hb7 od0 od1
          go_wp2_with fail
          go_roundw
          case rel => exact ⟨k + 1, _, _, _, _, _, by omega, by go_num, HT5.out.1, HT5.out.2, HL5.out, HN5.out, HREL5.out, HK7.out, HR7.out, HB7.out⟩
          case measure => simp [intOf]; omega
      by_cases hk4 : kd = 4
      · subst hk4
        by_cases hy0 : y < 0 ∨ 1099511627776 < y
        · have HC28 := Lib.hid (Tick_neg HK1.out.drew (by omega) hy0)
          have HC36 := Lib.hid (rTick_neg (B := B') (w := (wr.alloc (Obj.cells #[.int .i64 4, .int .i64 y] 65)).drew) hy0)
          obtain ⟨oa0, oa1⟩ := o_cells HO1.out
          go_wp2_with fail
          go_region_held (fun W => W.cell? ⟨wr.heap.size, 1, none⟩ = some (.int .i64 y)) (exact oa1) (first | (go_at_call 28; refine HC28.out.mono ?_; rintro e w4 ⟨rfl, rfl⟩) | (go_at_call 36; refine HC36.out.mono ?_; rintro e w5 ⟨rfl, rfl⟩))
          have HK5 := Lib.hid HK1.out.drew
          have HR5 := Lib.hid HR1.out.drew
          have HB5 := Lib.hid HB1.out.drew
          have HO5 := Lib.hid (show (wr.alloc (Obj.cells #[.int .i64 4, .int .i64 y] 65)).drew.heap[wr.heap.size]? = _ from HO1.out)
          clear oa0 oa1 HC28 HC36
          have HREL5 := Lib.hid (HREL.out.mono (Nat.le_succ k))
          have HL5 := Lib.hid (show L.length ≤ k + 1 by omega)
          have HN5 := Lib.hid (show nn ≤ k + 1 by omega)
          have HT5 := Lib.hid (show 0 ≤ T ∧ T ≤ 1125899906842624 from ⟨hT0, hT1⟩)
          obtain ⟨oc0, oc1⟩ := o_cells HO5.out
          have HS5 := Lib.hid (le_of_below HB5.out)
          go_wp2_with fail
          refine (told_any HK5.out (by omega) HR5.out (by have := HL5.out; omega) HREL5.out.toRel hx).mono ?_
          rintro e w6 ⟨rfl, hb6⟩
          have HK6 := Lib.hid (HK5.out.below hb6)
          have HR6 := Lib.hid (HR5.out.keeps (Keeps.of_below hb6))
          have HB6 := Lib.hid (HB5.out.trans (hb6.mono HS5.out))
          have HS6 := Lib.hid (Nat.le_trans HS5.out hb6.size)
          obtain ⟨od0, od1⟩ := o_cells (Keeps.of_below (S := isRef) hb6 _ _ (ref65 _ _) HO5.out)
          clear hb6 oc0 oc1
          go_wp2_with fail
          refine (told_any HK6.out (by omega) HR6.out (by have := HL5.out; omega) HREL5.out.toRel hyw).mono ?_
          rintro e w7 ⟨rfl, hb7⟩
          have HK7 := Lib.hid (HK6.out.below hb7)
          have HR7 := Lib.hid (HR6.out.keeps (Keeps.of_below hb7))
          have HB7 := Lib.hid (HB6.out.trans (hb7.mono HS6.out))
          clear hb7 od0 od1
          go_wp2_with fail
          go_roundw
          case rel => exact ⟨k + 1, _, _, _, _, _, by omega, by go_num, HT5.out.1, HT5.out.2, HL5.out, HN5.out, HREL5.out, HK7.out, HR7.out, HB7.out⟩
          case measure => simp [intOf]; omega
        by_cases hy1 : 1125899906842624 < T + y
        · have HC28 := Lib.hid (Tick_big HK1.out.drew (by omega) (by omega) (by omega) hy1 hT0 hT1)
          have HC36 := Lib.hid (rTick_big HR1.out.drew (by omega) (by omega) hy1 hT0)
          obtain ⟨oa0, oa1⟩ := o_cells HO1.out
          go_wp2_with fail
          go_region_held (fun W => W.cell? ⟨wr.heap.size, 1, none⟩ = some (.int .i64 y)) (exact oa1) (first | (go_at_call 28; refine HC28.out.mono ?_; rintro e w4 ⟨rfl, rfl⟩) | (go_at_call 36; refine HC36.out.mono ?_; rintro e w5 ⟨rfl, rfl⟩))
          have HK5 := Lib.hid HK1.out.drew
          have HR5 := Lib.hid HR1.out.drew
          have HB5 := Lib.hid HB1.out.drew
          have HO5 := Lib.hid (show (wr.alloc (Obj.cells #[.int .i64 4, .int .i64 y] 65)).drew.heap[wr.heap.size]? = _ from HO1.out)
          clear oa0 oa1 HC28 HC36
          have HREL5 := Lib.hid (HREL.out.mono (Nat.le_succ k))
          have HL5 := Lib.hid (show L.length ≤ k + 1 by omega)
          have HN5 := Lib.hid (show nn ≤ k + 1 by omega)
          have HT5 := Lib.hid (show 0 ≤ T ∧ T ≤ 1125899906842624 from ⟨hT0, hT1⟩)
          obtain ⟨oc0, oc1⟩ := o_cells HO5.out
          have HS5 := Lib.hid (le_of_below HB5.out)
          go_wp2_with fail
          refine (told_any HK5.out (by omega) HR5.out (by have := HL5.out; omega) HREL5.out.toRel hx).mono ?_
          rintro e w6 ⟨rfl, hb6⟩
          have HK6 := Lib.hid (HK5.out.below hb6)
          have HR6 := Lib.hid (HR5.out.keeps (Keeps.of_below hb6))
          have HB6 := Lib.hid (HB5.out.trans (hb6.mono HS5.out))
          have HS6 := Lib.hid (Nat.le_trans HS5.out hb6.size)
          obtain ⟨od0, od1⟩ := o_cells (Keeps.of_below (S := isRef) hb6 _ _ (ref65 _ _) HO5.out)
          clear hb6 oc0 oc1
          go_wp2_with fail
          refine (told_any HK6.out (by omega) HR6.out (by have := HL5.out; omega) HREL5.out.toRel hyw).mono ?_
          rintro e w7 ⟨rfl, hb7⟩
          have HK7 := Lib.hid (HK6.out.below hb7)
          have HR7 := Lib.hid (HR6.out.keeps (Keeps.of_below hb7))
          have HB7 := Lib.hid (HB6.out.trans (hb7.mono HS6.out))
          clear hb7 od0 od1
          go_wp2_with fail
          go_roundw
          case rel => exact ⟨k + 1, _, _, _, _, _, by omega, by go_num, HT5.out.1, HT5.out.2, HL5.out, HN5.out, HREL5.out, HK7.out, HR7.out, HB7.out⟩
          case measure => simp [intOf]; omega
        have HC28 := Lib.hid (Tick_g HK1.out.drew (by omega) (k := y) (by omega) (by omega) (by omega) hT0)
        have HC36 := Lib.hid (fun W (hkp : Keeps isRef (wr.alloc (Obj.cells #[.int .i64 4, .int .i64 y] 65)).drew W) => rTick_yes (HR1.out.drew.keeps hkp) (k := y) (by omega) (by omega) (by omega) hT0)
        obtain ⟨oa0, oa1⟩ := o_cells HO1.out
        go_wp2_with fail
        go_region_held (fun W => W.cell? ⟨wr.heap.size, 1, none⟩ = some (.int .i64 y)) (first | exact oa1 | exact oc1 | exact ob1) (first | (go_at_call 28; refine HC28.out.mono ?_; rintro e w4 ⟨rfl, hk4, hb4, hkp4⟩; have HO4 := Lib.hid (hkp4 _ _ (ref65 _ _) HO1.out); have ob1 := (o_cells HO4.out).2) | (go_at_call 36; refine (HC36.out _ hkp4).mono ?_; rintro e w5 ⟨rfl, hr5, hb5, hkp5⟩; have HO5 := Lib.hid (hkp5 _ _ (clk65 _ _) HO4.out); have oc1 := (o_cells HO5.out).2))
        have HK5 := Lib.hid (hk4.keeps hkp5)
        have HR5 := Lib.hid hr5
        have HB5 := Lib.hid ((HB1.out.drew.trans hb4).trans hb5)
        clear hk4 hb4 hkp4 hr5 hb5 hkp5 oa0 oa1 ob1 oc1 HC28 HC36
        have HREL5 := Lib.hid (HREL.out.mono (Nat.le_succ k))
        have HL5 := Lib.hid (show L.length ≤ k + 1 by omega)
        have HN5 := Lib.hid (show nn ≤ k + 1 by omega)
        have HT5 := Lib.hid (show 0 ≤ T + y ∧ T + y ≤ 1125899906842624 by omega)
        obtain ⟨oc0, oc1⟩ := o_cells HO5.out
        have HS5 := Lib.hid (le_of_below HB5.out)
        go_wp2_with fail
        refine (told_any HK5.out (by omega) HR5.out (by have := HL5.out; omega) HREL5.out.toRel hx).mono ?_
        rintro e w6 ⟨rfl, hb6⟩
        have HK6 := Lib.hid (HK5.out.below hb6)
        have HR6 := Lib.hid (HR5.out.keeps (Keeps.of_below hb6))
        have HB6 := Lib.hid (HB5.out.trans (hb6.mono HS5.out))
        have HS6 := Lib.hid (Nat.le_trans HS5.out hb6.size)
        obtain ⟨od0, od1⟩ := o_cells (Keeps.of_below (S := isRef) hb6 _ _ (ref65 _ _) HO5.out)
        clear hb6 oc0 oc1
        go_wp2_with fail
        refine (told_any HK6.out (by omega) HR6.out (by have := HL5.out; omega) HREL5.out.toRel hyw).mono ?_
        rintro e w7 ⟨rfl, hb7⟩
        have HK7 := Lib.hid (HK6.out.below hb7)
        have HR7 := Lib.hid (HR6.out.keeps (Keeps.of_below hb7))
        have HB7 := Lib.hid (HB6.out.trans (hb7.mono HS6.out))
        clear hb7 od0 od1
        go_wp2_with fail
        go_roundw
        case rel => exact ⟨k + 1, _, _, _, _, _, by omega, by go_num, HT5.out.1, HT5.out.2, HL5.out, HN5.out, HREL5.out, HK7.out, HR7.out, HB7.out⟩
        case measure => simp [intOf]; omega
      have g1 : (kd == 1) = false := by simpa using hk1
      have g2 : (kd == 2) = false := by simpa using hk2
      have g3 : (kd == 3) = false := by simpa using hk3
      have g4 : (kd == 4) = false := by simpa using hk4
      have g5 : decide (kd = 1) = false := by simpa using hk1
      have g6 : decide (kd = 2) = false := by simpa using hk2
      have g7 : decide (kd = 3) = false := by simpa using hk3
      have g8 : decide (kd = 4) = false := by simpa using hk4
      have HK5 := HK1; have HR5 := HR1; have HB5 := HB1; have HO5 := HO1
      have HREL5 := Lib.hid (HREL.out.mono (Nat.le_succ k))
      have HL5 := Lib.hid (show L.length ≤ k + 1 by omega)
      have HN5 := Lib.hid (show nn ≤ k + 1 by omega)
      have HT5 := Lib.hid (show 0 ≤ T ∧ T ≤ 1125899906842624 from ⟨hT0, hT1⟩)
      obtain ⟨oc0, oc1⟩ := o_cells HO5.out
      have HS5 := Lib.hid (le_of_below HB5.out)
      go_wp2_with fail
      refine (told_any HK5.out (by omega) HR5.out (by have := HL5.out; omega) HREL5.out.toRel hx).mono ?_
      rintro e w6 ⟨rfl, hb6⟩
      have HK6 := Lib.hid (HK5.out.below hb6)
      have HR6 := Lib.hid (HR5.out.keeps (Keeps.of_below hb6))
      have HB6 := Lib.hid (HB5.out.trans (hb6.mono HS5.out))
      have HS6 := Lib.hid (Nat.le_trans HS5.out hb6.size)
      obtain ⟨od0, od1⟩ := o_cells (Keeps.of_below (S := isRef) hb6 _ _ (ref65 _ _) HO5.out)
      clear hb6 oc0 oc1
      go_wp2_with fail
      refine (told_any HK6.out (by omega) HR6.out (by have := HL5.out; omega) HREL5.out.toRel hyw).mono ?_
      rintro e w7 ⟨rfl, hb7⟩
      have HK7 := Lib.hid (HK6.out.below hb7)
      have HR7 := Lib.hid (HR6.out.keeps (Keeps.of_below hb7))
      have HB7 := Lib.hid (HB6.out.trans (hb7.mono HS6.out))
      clear hb7 od0 od1
      go_wp2_with fail
      go_roundw
      case rel => exact ⟨k + 1, _, _, _, _, _, by omega, by go_num, HT5.out.1, HT5.out.2, HL5.out, HN5.out, HREL5.out, HK7.out, HR7.out, HB7.out⟩
      case measure => simp [intOf]; omega
    · go_wp2_with fail
      go_ret
      exact ⟨rfl, ((Below.refl _ _).alloc (Nat.le_refl _) _).trans (HBL.out.mono (by omega))⟩
end Go.Proofs.Ytklkhlipecphkaa
