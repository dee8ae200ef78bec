/- Retry: Stop, Tried where there is none; the law RetryApart. -/
import Derived.Test.YtklkhlipecphkaaRd
namespace Go.Proofs.Ytklkhlipecphkaa
open Go.RowKit Go.Joins Go.Maps
set_option maxRecDepth 100000
set_option linter.unusedVariables false

set_option maxHeartbeats 1000000 in
theorem Stop_yes {N B Mb : Nat} {base most now : Int} {f : Int → Option (Int × Int)} {n : Nat} {w : World} (h : Clk N B Mb base most now f n w) (hb : 0 < base) {x : Int} (hx : (Lit.int .i64 x).wf = true) :
    Calls Try.prog 25 #[.pointer (some ⟨B, 0, none⟩), .int .i64 x] w fun e w' => e = .returned (.bool (f x).isSome) ∧ Clk N B Mb base most now (upd f x none) n w' ∧ Below N w w' := by
  have HIS := Lib.hid (is_yes h hb)
  have c3 := h.c3
  have hl := timers_look h.map hx
  obtain ⟨⟨a, t⟩, hp⟩ : ∃ p, p = (f x).getD (0, 0) := ⟨_, rfl⟩
  obtain ⟨ok, hok⟩ : ∃ ok, ok = (f x).isSome := ⟨_, rfl⟩
  rw [← hp, ← hok] at hl
  rw [← hok]
  simp only [tVal] at hl
  clear hp hok
  have hk := h.below ((Below.refl _ w).alloc (Nat.le_refl _) (Obj.cells #[.int .i64 a, .int .i64 t] 97))
  have e3 := hk.c3
  have hBa : Below N w (w.alloc (Obj.cells #[.int .i64 a, .int .i64 t] 97)) := (Below.refl _ w).alloc (Nat.le_trans h.hB (Nat.le_of_lt h.lt)) _
  have HK := Lib.hid hk
  have HBA := Lib.hid hBa
  obtain ⟨D, hown, hv⟩ := hk.map
  have HV := Lib.hid hv
  have HN := Lib.hid (show N ≤ (w.alloc (Obj.cells #[.int .i64 a, .int .i64 t] 97)).heap.size from Nat.le_trans hk.hB (Nat.le_of_lt hk.lt))
  clear h hk hBa hv
  go_enter Try.func25, Try.ntmps25
  go_wp2_with fail
  refine HIS.out.mono ?_
  rintro e w1 ⟨rfl, rfl⟩
  go_wp2_with (at_delete; refine wpList_delete_own _ rfl _ _ 68 3 rfl 97 law Try.underlying68 tElem Mb n D rfl hown _ _ rfl (keyOf_int_mk Try.underlying3 hx) ?_; intro w2 hown2 hturn2)
  have hk2 : Clk N B Mb base most now (upd f x none) n w2 := HK.out.put hturn2.grown ⟨_, hown2, HV.out.del⟩
  have hB2 : Below N w1 w2 := HBA.out.grown hturn2.grown HN.out (fun q hq => by cases hq; exact HK.out.hM)
  go_ret
  exact ⟨rfl, hk2, hB2⟩

set_option maxHeartbeats 1000000 in
theorem Tried_none {N B Mb : Nat} {base most now : Int} {f : Int → Option (Int × Int)} {n : Nat} {w : World} (h : Clk N B Mb base most now f n w) (hb : 0 < base) {x : Int} (hx : (Lit.int .i64 x).wf = true) (hf : f x = none) :
    Calls Try.prog 24 #[.pointer (some ⟨B, 0, none⟩), .int .i64 x] w fun e w' => e = .returned (.int .i64 2) ∧ Below w.heap.size w w' := by
  have HIS := Lib.hid (is_yes h hb)
  have c3 := h.c3
  have hl := timers_look h.map hx
  rw [hf] at hl
  simp only [Option.getD_none, Option.isSome_none, tVal] at hl
  clear h hf
  go_enter Try.func24, Try.ntmps24
  go_wp2_with fail
  refine HIS.out.mono ?_
  rintro e w1 ⟨rfl, rfl⟩
  go_wp2_with fail
  go_ret
  exact ⟨rfl, (Below.refl _ _).alloc (Nat.le_refl _) _⟩

/-- What a slice of numbers that came in is. -/
def IsRow (w : World) (a : Option Addr) (len cap : Nat) (zs : List Int) : Prop :=
  (a = none ∧ len = 0 ∧ cap = 0 ∧ zs = []) ∨
  ∃ x, a = some x ∧ len ≤ cap ∧ cap ≤ maxLen ∧ zs.length = cap ∧ (∀ i, i < zs.length → w.cell? (x.add i) = some (.int .i64 (zs.getD i 0)))

set_option maxHeartbeats 1000000 in
theorem RetryApart_same (a : Int) (oa : Option Addr) (len cap : Nat) (w : World) : Calls Try.prog 5 #[.int .i64 a, .int .i64 a, .slice oa len cap] w (Yes w) := by
  go_enter Try.func5, Try.ntmps5
  go_wp2_with fail
  refine (awake_any _).mono ?_
  rintro e w1 ⟨rfl, hb1⟩
  go_wp2_with fail
  go_ret
  exact ⟨rfl, hb1⟩
set_option maxHeartbeats 1000000 in
theorem RetryApart_long (a b : Int) (oa : Option Addr) (len cap : Nat) (w : World) (h : a ≠ b) (hl : 60 < len) : Calls Try.prog 5 #[.int .i64 a, .int .i64 b, .slice oa len cap] w (Yes w) := by
  have d1 : (a == b) = false := by simpa using h
  have d2 : decide (a = b) = false := by simpa using h
  have d3 : decide ((60 : Int) < (len : Int)) = true := decide_eq_true (by omega)
  go_enter Try.func5, Try.ntmps5
  go_wp2_with fail
  refine (awake_any _).mono ?_
  rintro e w1 ⟨rfl, hb1⟩
  go_wp2_with fail
  go_ret
  exact ⟨rfl, hb1⟩

set_option maxHeartbeats 8000000 in
theorem RetryApart_some (a b : Int) (oa : Option Addr) (len cap : Nat) (O : Nat → Int) (w : World) (h : a ≠ b) (hl : len ≤ 60) (ha : (Lit.int .i64 a).wf = true) (hb : (Lit.int .i64 b).wf = true)
    (hc : ∀ j, j < len → ∃ x, oa = some x ∧ w.cell? (x.add j) = some (.int .i64 (O j))) : Calls Try.prog 5 #[.int .i64 a, .int .i64 b, .slice oa len cap] w (Yes w) := by
  have d1 : (a == b) = false := by simpa using h
  have d2 : decide (a = b) = false := by simpa using h
  have d3 : decide ((60 : Int) < (len : Int)) = false := decide_eq_false (by omega)
  have HC := Lib.hid hc
  clear hc
  go_enter Try.func5, Try.ntmps5
  go_wp2_with fail
  refine (awake_any _).mono ?_
  rintro e w1 ⟨rfl, hb1⟩
  go_wp2_with fail
  refine (New_yes 3 9 _ (by omega) (by omega) (by omega)).mono ?_
  rintro e w2 ⟨B, Mb, rfl, hk2, hb2⟩
  have HK2 := Lib.hid (hk2.mono hb1.size)
  have HB2 := Lib.hid (hb1.trans (hb2.mono hb1.size))
  clear hk2 hb2 hb1
  go_wp2_with fail
  refine (Start_yes HK2.out (by omega) (by unfold maxLen; omega) ha).mono ?_
  rintro e w3 ⟨rfl, hk3, hb3⟩
  have HK3 := Lib.hid hk3
  have HB3 := Lib.hid (HB2.out.trans hb3)
  clear hk3 hb3
  go_wp2_with fail
  refine (Tried_yes (t := 0) HK3.out (by omega) (by omega) (by omega) (by unfold maxLen; omega) ha (upd_same _ _ _) (by omega) (by omega) (by omega)).mono ?_
  rintro e w4 ⟨rfl, hk4, hb4⟩
  rw [show M.wait 3 9 (0 + 1) = 3 from rfl] at hk4
  have HK4 := Lib.hid hk4
  have HB4 := Lib.hid (HB3.out.trans hb4)
  clear hk4 hb4
  go_wp2_with fail
  refine (Tried_yes (t := 1) HK4.out (by omega) (by omega) (by omega) (by unfold maxLen; omega) ha (upd_same _ _ _) (by omega) (by omega) (by omega)).mono ?_
  rintro e w5 ⟨rfl, hk5, hb5⟩
  rw [show M.wait 3 9 (1 + 1) = 6 from rfl] at hk5
  have HB5 := Lib.hid (HB4.out.trans hb5)
  have hfa := upd_same (upd (upd (fun _ => none) a (some (0, 0))) a (some (0 + ((3 : Nat) : Int), ((0 + 1 : Nat) : Int)))) a (some (0 + ((6 : Nat) : Int), ((1 + 1 : Nat) : Int)))
  have hfb : upd (upd (upd (fun _ => none) a (some (0, 0))) a (some (0 + ((3 : Nat) : Int), ((0 + 1 : Nat) : Int)))) a (some (0 + ((6 : Nat) : Int), ((1 + 1 : Nat) : Int))) b = none := by
    rw [upd_other _ _ (Ne.symm h), upd_other _ _ (Ne.symm h), upd_other _ _ (Ne.symm h)]
  obtain ⟨f5, hf5⟩ : ∃ f5, f5 = upd (upd (upd (fun _ => none) a (some (0, 0))) a (some (0 + ((3 : Nat) : Int), ((0 + 1 : Nat) : Int)))) a (some (0 + ((6 : Nat) : Int), ((1 + 1 : Nat) : Int))) := ⟨_, rfl⟩
  rw [← hf5] at hk5 hfa hfb
  have HK5 := Lib.hid hk5
  have HFA := Lib.hid hfa
  have HFB := Lib.hid hfb
  clear hk5 hb5 hf5 hfa hfb
  go_wp2_with fail
  go_loopw [10, 42] (fun _ i wr => ∃ (k n : Nat) (f : Int → Option (Int × Int)), k ≤ len ∧ i = .int .i64 (k : Int) ∧ Clk w.heap.size B Mb ((3 : Nat) : Int) ((9 : Nat) : Int) 0 f n wr ∧ f a = some (0 + ((6 : Nat) : Int), ((1 + 1 : Nat) : Int)) ∧ (∀ p, f b = some p → ∃ t : Nat, p.2 = (t : Int) ∧ t ≤ k) ∧ n ≤ 3 + k ∧ Below w.heap.size w wr) (fun _ i _ => len - (intOf i).toNat)
  case atStart => exact ⟨0, _, f5, Nat.zero_le _, rfl, HK5.out, HFA.out, fun p hp => (by rw [HFB.out] at hp; cases hp), by omega, HB5.out⟩
  case round =>
    obtain ⟨k, n, f, hk, rfl, hclk, hfa, hfb, hn, hbl⟩ := hrel
    have HK := Lib.hid hclk
    have HFA2 := Lib.hid hfa
    have HFB2 := Lib.hid hfb
    have HBL := Lib.hid hbl
    clear hclk hfa hfb hbl
    by_cases hlt : k < len
    · obtain ⟨x, rfl, hx⟩ := HC.out k hlt
      have hcx := (HBL.out.cell (World.block_lt_of_cell? _ _ hx)).trans hx
      clear hx
      obtain ⟨o, ho⟩ : ∃ o, o = O k := ⟨_, rfl⟩
      rw [← ho] at hcx
      clear ho
      obtain ⟨r, hr⟩ : ∃ r, Int.tmod o 3 = r := ⟨_, rfl⟩
      by_cases h0 : r = 0
      · subst h0
        go_wp2_with fail
        refine (Start_yes HK.out (by omega) (by unfold maxLen; omega) hb).mono ?_
        rintro e w6 ⟨rfl, hk6, hb6'⟩
        have hb6 := HBL.out.trans hb6'
        have hfa6 : (upd f b (some (0, 0))) a = some (0 + ((6 : Nat) : Int), ((1 + 1 : Nat) : Int)) := (upd_other f _ h).trans HFA2.out
        have hfb6 : (∀ p, (upd f b (some (0, 0))) b = some p → ∃ t : Nat, p.2 = (t : Int) ∧ t ≤ k + 1) := fun p hp => (by rw [upd_same] at hp; cases hp; exact ⟨0, rfl, by omega⟩)
        have hn6 : n + 1 ≤ 3 + (k + 1) := by omega
        clear hb6'
        have HK7 := Lib.hid hk6
        have HB7 := Lib.hid hb6
        have HA7 := Lib.hid hfa6
        have HF7 := Lib.hid hfb6
        have HN7 := Lib.hid hn6
        clear hk6 hb6 hfa6 hfb6 hn6
        go_wp2_with fail
        refine (Tries_yes HK7.out (by omega) ha).mono ?_
        rintro e w7 ⟨rfl, rfl⟩
        rw [HA7.out]
        go_wp2_with fail
        refine (Due_yes HK7.out (by omega) ha).mono ?_
        rintro e w8 ⟨rfl, hb8⟩
        rw [show dueB _ a 0 = false from by unfold dueB; rw [HA7.out]; rfl]
        have HK8 := Lib.hid (HK7.out.below hb8)
        have HB8 := Lib.hid (HB7.out.trans (hb8.mono HB7.out.size))
        clear hb8
        go_wp2_with fail
        go_roundw
        case rel => exact ⟨k + 1, _, _, by omega, by go_num, HK8.out, HA7.out, HF7.out, HN7.out, HB8.out⟩
        case measure => simp [intOf]; omega
      · by_cases h1 : r = 1
        · subst h1
          cases hfx : f b with
          | none =>
            go_wp2_with fail
            refine (Tried_none HK.out (by omega) hb hfx).mono ?_
            rintro e w6 ⟨rfl, hb6'⟩
            have hk6 := HK.out.below hb6'
            have hb6 := HBL.out.trans (hb6'.mono HBL.out.size)
            have hfa6 := HFA2.out
            have hfb6 : (∀ p, f b = some p → ∃ t : Nat, p.2 = (t : Int) ∧ t ≤ k + 1) := fun p hp => (by rw [hfx] at hp; cases hp)
            have hn6 : n ≤ 3 + (k + 1) := by omega
            clear hb6'
            have HK7 := Lib.hid hk6
            have HB7 := Lib.hid hb6
            have HA7 := Lib.hid hfa6
            have HF7 := Lib.hid hfb6
            have HN7 := Lib.hid hn6
            clear hk6 hb6 hfa6 hfb6 hn6
            go_wp2_with fail
            refine (Tries_yes HK7.out (by omega) ha).mono ?_
            rintro e w7 ⟨rfl, rfl⟩
            rw [HA7.out]
            go_wp2_with fail
            refine (Due_yes HK7.out (by omega) ha).mono ?_
            rintro e w8 ⟨rfl, hb8⟩
            rw [show dueB _ a 0 = false from by unfold dueB; rw [HA7.out]; rfl]
            have HK8 := Lib.hid (HK7.out.below hb8)
            have HB8 := Lib.hid (HB7.out.trans (hb8.mono HB7.out.size))
            clear hb8
            go_wp2_with fail
            go_roundw
            case rel => exact ⟨k + 1, _, _, by omega, by go_num, HK8.out, HA7.out, HF7.out, HN7.out, HB8.out⟩
            case measure => simp [intOf]; omega
          | some p =>
            obtain ⟨p1, p2⟩ := p
            obtain ⟨t, ht, htk⟩ := HFB2.out _ hfx
            dsimp only at ht
            subst ht
            go_wp2_with fail
            refine (Tried_yes (t := t) HK.out (by omega) (by omega) (by omega) (by unfold maxLen; omega) hb hfx (by omega) (by omega) (by omega)).mono ?_
            rintro e w6 ⟨rfl, hk6, hb6'⟩
            have hb6 := HBL.out.trans hb6'
            have hfa6 := (upd_other f (some (0 + (M.wait 3 9 (t + 1) : Nat), ((t + 1 : Nat) : Int))) h).trans HFA2.out
            have hfb6 : (∀ p, (upd f b (some (0 + (M.wait 3 9 (t + 1) : Nat), ((t + 1 : Nat) : Int)))) b = some p → ∃ t : Nat, p.2 = (t : Int) ∧ t ≤ k + 1) := fun p hp => (by rw [upd_same] at hp; cases hp; exact ⟨t + 1, rfl, by omega⟩)
            have hn6 : n + 1 ≤ 3 + (k + 1) := by omega
            clear hb6' hfx
            have HK7 := Lib.hid hk6
            have HB7 := Lib.hid hb6
            have HA7 := Lib.hid hfa6
            have HF7 := Lib.hid hfb6
            have HN7 := Lib.hid hn6
            clear hk6 hb6 hfa6 hfb6 hn6
            go_wp2_with fail
            refine (Tries_yes HK7.out (by omega) ha).mono ?_
            rintro e w7 ⟨rfl, rfl⟩
            rw [HA7.out]
            go_wp2_with fail
            refine (Due_yes HK7.out (by omega) ha).mono ?_
            rintro e w8 ⟨rfl, hb8⟩
            rw [show dueB _ a 0 = false from by unfold dueB; rw [HA7.out]; rfl]
            have HK8 := Lib.hid (HK7.out.below hb8)
            have HB8 := Lib.hid (HB7.out.trans (hb8.mono HB7.out.size))
            clear hb8
            go_wp2_with fail
            go_roundw
            case rel => exact ⟨k + 1, _, _, by omega, by go_num, HK8.out, HA7.out, HF7.out, HN7.out, HB8.out⟩
            case measure => simp [intOf]; omega
        · have g0 : (r == 0) = false := by simpa using h0
          have g1 : (r == 1) = false := by simpa using h1
          have g2 : decide (r = 0) = false := by simpa using h0
          have g3 : decide (r = 1) = false := by simpa using h1
          go_wp2_with fail
          refine (Stop_yes HK.out (by omega) hb).mono ?_
          rintro e w6 ⟨rfl, hk6, hb6'⟩
          have hb6 := HBL.out.trans hb6'
          have hfa6 := (upd_other f none h).trans HFA2.out
          have hfb6 : (∀ p, (upd f b none) b = some p → ∃ t : Nat, p.2 = (t : Int) ∧ t ≤ k + 1) := fun p hp => (by rw [upd_same] at hp; cases hp)
          have hn6 : n ≤ 3 + (k + 1) := by omega
          clear hb6'
          have HK7 := Lib.hid hk6
          have HB7 := Lib.hid hb6
          have HA7 := Lib.hid hfa6
          have HF7 := Lib.hid hfb6
          have HN7 := Lib.hid hn6
          clear hk6 hb6 hfa6 hfb6 hn6
          go_wp2_with fail
          refine (Tries_yes HK7.out (by omega) ha).mono ?_
          rintro e w7 ⟨rfl, rfl⟩
          rw [HA7.out]
          go_wp2_with fail
          refine (Due_yes HK7.out (by omega) ha).mono ?_
          rintro e w8 ⟨rfl, hb8⟩
          rw [show dueB _ a 0 = false from by unfold dueB; rw [HA7.out]; rfl]
          have HK8 := Lib.hid (HK7.out.below hb8)
          have HB8 := Lib.hid (HB7.out.trans (hb8.mono HB7.out.size))
          clear hb8
          go_wp2_with fail
          go_roundw
          case rel => exact ⟨k + 1, _, _, by omega, by go_num, HK8.out, HA7.out, HF7.out, HN7.out, HB8.out⟩
          case measure => simp [intOf]; omega
    · go_wp2_with fail
      refine (Tick_yes HK.out (by omega) (k := 6) (by omega) (by omega) (by omega) (by omega)).mono ?_
      rintro e w6 ⟨rfl, hk6, hb6⟩
      have HK6 := Lib.hid hk6
      have HB6 := Lib.hid (HBL.out.trans hb6)
      clear hk6 hb6
      go_wp2_with fail
      refine (Due_yes HK6.out (by omega) ha).mono ?_
      rintro e w8 ⟨rfl, hb8⟩
      rw [show dueB f a (0 + 6) = true from by unfold dueB; rw [HFA2.out]; rfl]
      have HB8 := Lib.hid (HB6.out.trans (hb8.mono HB6.out.size))
      clear hb8
      go_wp2_with fail
      go_ret
      exact ⟨rfl, HB8.out⟩

theorem RetryApart_row (a b : Int) (oa : Option Addr) (len cap : Nat) (zs : List Int) (w : World) (ha : (Lit.int .i64 a).wf = true) (hb : (Lit.int .i64 b).wf = true) (hr : IsRow w oa len cap zs) :
    Calls Try.prog 5 #[.int .i64 a, .int .i64 b, .slice oa len cap] w fun e w' => e = .returned (.bool true) ∧ Below w.heap.size w w' := by
  by_cases h : a = b
  · subst h; exact RetryApart_same a oa len cap w
  rcases hr with ⟨rfl, rfl, rfl, rfl⟩ | ⟨x, rfl, hlc, hcm, hzl, hcell⟩
  · exact RetryApart_some a b none 0 0 (fun _ => 0) w h (by omega) ha hb (fun j hj => absurd hj (by omega))
  · by_cases h60 : 60 < len
    · exact RetryApart_long a b _ len cap w h h60
    · exact RetryApart_some a b _ len cap (fun j => zs.getD j 0) w h (by omega) ha hb (fun j hj => ⟨x, rfl, hcell j (by omega)⟩)
end Go.Proofs.Ytklkhlipecphkaa
