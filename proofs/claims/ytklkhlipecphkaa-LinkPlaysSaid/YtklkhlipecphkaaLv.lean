/- Link: the document's line: Double, Flip. -/
import Derived.Test.YtklkhlipecphkaaLu
namespace Go.Proofs.Ytklkhlipecphkaa
open Go.RowKit Go.Joins Go.Maps
set_option maxRecDepth 100000
set_option linter.unusedVariables false

set_option maxHeartbeats 2000000 in
theorem rDouble_bad {N C : Nat} {nodes most : Int} {va : Value} {rs : List Ml} {w : World} (h : RH N C nodes most va rs w) (a b : Int) {i c : Int} (hi : (Lit.int .i64 i).wf = true) (hl : rs.length ≤ 1000) (hc : cName nodes (abs rs) a b i = c) (h0 : c ≠ 0) :
    Calls Try.prog 55 #[.pointer (some ⟨C, 0, none⟩), .int .i64 a, .int .i64 b, .int .i64 i] w fun e w' => e = .returned (.int .i64 c) ∧ w' = w := by
  have HA := rNamed_any h a b hi hl
  rw [hc] at HA
  have HA := Lib.hid HA
  have z1 : (c != 0) = true := by simpa using h0
  have z2 : (c == 0) = false := by simpa using h0
  have z3 : decide (c = 0) = false := by simpa using h0
  clear h hc h0 hi hl
  go_enter Try.func55, Try.ntmps55
  go_wp2_with fail
  refine HA.out.mono ?_
  rintro e w1 ⟨rfl, rfl⟩
  go_wp2_with fail
  go_ret
  exact ⟨rfl, rfl⟩
set_option maxHeartbeats 2000000 in
theorem rFlip_bad {N C : Nat} {nodes most : Int} {va : Value} {rs : List Ml} {w : World} (h : RH N C nodes most va rs w) (a b : Int) {i c : Int} (bit : Int) (hi : (Lit.int .i64 i).wf = true) (hl : rs.length ≤ 1000) (hc : cName nodes (abs rs) a b i = c) (h0 : c ≠ 0) :
    Calls Try.prog 56 #[.pointer (some ⟨C, 0, none⟩), .int .i64 a, .int .i64 b, .int .i64 i, .int .i64 bit] w fun e w' => e = .returned (.int .i64 c) ∧ w' = w := by
  have HA := rNamed_any h a b hi hl
  rw [hc] at HA
  have HA := Lib.hid HA
  have z1 : (c != 0) = true := by simpa using h0
  have z2 : (c == 0) = false := by simpa using h0
  have z3 : decide (c = 0) = false := by simpa using h0
  clear h hc h0 hi hl
  go_enter Try.func56, Try.ntmps56
  go_wp2_with fail
  refine HA.out.mono ?_
  rintro e w1 ⟨rfl, rfl⟩
  go_wp2_with fail
  go_ret
  exact ⟨rfl, rfl⟩
theorem RPost.from {N C : Nat} {nodes most : Int} {va : Value} {rs : List Ml} {w w1 w' : World} {A : List Ab} (hb : Below w.heap.size w w1) (h : RPost N C nodes most va rs w1 A w') : RPost N C nodes most va rs w A w' := by
  obtain ⟨va', rs', h1, h2, h3, h4⟩ := h
  refine ⟨va', rs', h1, h2, (Chg.of_below (S := fun _ => False) hb).trans h3 (fun _ _ s => s.elim) (fun _ _ s => s), fun r hr => ?_⟩
  rcases h4 r hr with h | h
  · exact .inl h
  · exact .inr (fun k e => Nat.le_trans hb.size (h k e))
theorem RPost.drew {N C : Nat} {nodes most : Int} {va : Value} {rs : List Ml} {w w' : World} {A : List Ab} (h : RPost N C nodes most va rs w A w') : RPost N C nodes most va rs w A w'.drew := by
  obtain ⟨va', rs', h1, h2, h3, h4⟩ := h
  exact ⟨va', rs', h1, h2.below (Below.refl _ _).drew, h3.trans (Chg.of_below (S := fun _ => False) (Below.refl _ _).drew) (fun _ _ s => s) (fun _ _ s => s.elim), h4⟩
set_option maxHeartbeats 4000000 in
theorem rDouble_ok {N C : Nat} {nodes most : Int} {va : Value} {rs : List Ml} {w : World} (h : RH N C nodes most va rs w) (a b : Int) {i : Int} (hi : (Lit.int .i64 i).wf = true) (hl : rs.length ≤ 1000) (h300 : ∀ m ∈ rs, m.L.length ≤ 300) (hc : cName nodes (abs rs) a b i = 0) :
    Calls Try.prog 55 #[.pointer (some ⟨C, 0, none⟩), .int .i64 a, .int .i64 b, .int .i64 i] w (SPost N C nodes most va rs w (cSend nodes most (abs rs) a b) (aSend nodes most (abs rs) a b (tTake nodes (abs rs) a b i))) := by
  obtain ⟨ho, h0i, k, m, hpos, hm, hmf, hmt, hpi, hpz, htt⟩ := named_zero hc
  have HA := rNamed_any h a b hi hl
  rw [hc] at HA
  have hkl := (List.getElem?_eq_some_iff.1 hm).1
  have hvr := h.msg m (List.mem_of_getElem? hm)
  have HB2 : ∀ W, (∃ z, W = w.drewN z) → Calls Try.prog 59 #[.pointer (some ⟨C, 0, none⟩), .int .i64 a, .int .i64 b, .int .i64 i] W fun e w' => e = .returned (.int .i64 (k : Int)) ∧ w' = W := fun W ⟨z, hz⟩ => by
    have := rAt_any (h.below (w' := W) (by rw [hz]; exact ⟨rfl, rfl, rfl, Nat.le_refl _, fun _ _ => rfl⟩)) a b hi hl
    rw [hpz] at this; exact this
  have HC2 : ∀ W, (∃ z, W = w.drewN z) → Calls Try.prog 54 #[.pointer (some ⟨C, 0, none⟩), .int .i64 a, .int .i64 b, m.v] W (SPost N C nodes most va rs W (cSend nodes most (abs rs) a b) (aSend nodes most (abs rs) a b (tTake nodes (abs rs) a b i))) := fun W ⟨z, hz⟩ => by
    have hb : Below w.heap.size w W := by rw [hz]; exact ⟨rfl, rfl, rfl, Nat.le_refl _, fun _ _ => rfl⟩
    rw [htt]
    exact rSend_any (h.below hb) a b hl (Src.of_own (row_below hvr hb)) (h300 m (List.mem_of_getElem? hm))
  have HA := Lib.hid HA; have HB := Lib.hid HB2; have HCC := Lib.hid HC2
  obtain ⟨n, hn⟩ : ∃ n, n = rs.length := ⟨_, rfl⟩
  have hrow := h.row
  rw [← hn] at hkl hl hrow
  obtain ⟨g, cap, rfl⟩ : ∃ g cap, va = .slice (some ⟨g, 0, none⟩) n cap := by
    rcases ownsRow_forms hrow with ⟨_, h0⟩ | ⟨g, cp, h⟩
    · omega
    · exact ⟨g, cp, h⟩
  have c2 := h.c2
  obtain ⟨m0, m1, m2⟩ := mcells_get rs k m hm
  have cm : w.cell? ⟨g, k * 3 + 2, none⟩ = some m.v := by
    rw [hrow.cellAt _ (by omega)]; exact m2
  obtain ⟨v, hv⟩ : ∃ v, v = m.v := ⟨_, rfl⟩
  rw [← hv] at cm hvr HCC
  obtain ⟨ov, lv, cv, hvf⟩ : ∃ ov lv cv, v = .slice ov lv cv := by
    rcases ownsRow_forms hvr with ⟨h, h0⟩ | ⟨g, cp, h⟩
    · exact ⟨_, _, _, h⟩
    · exact ⟨_, _, _, h⟩
  obtain ⟨cs, hcs⟩ : ∃ cs, cs = cSend nodes most (abs rs) a b := ⟨_, rfl⟩
  rw [← hcs] at HCC ⊢
  have dk : decide ((k : Int) < 0) = false := decide_eq_false (by omega)
  have dk2 : decide ((k : Int) < (n : Int)) = true := decide_eq_true (by omega)
  clear h ho h0i hpos hm hmf hmt hpi hpz htt hn hrow hvr m0 m1 m2 hc hi HB2 HC2 hv hcs h300
  subst hvf
  go_enter Try.func55, Try.ntmps55
  go_wp2_with fail
  refine HA.out.mono ?_
  rintro e w1 ⟨rfl, rfl⟩
  go_wp2_with fail
  go_region_with (first
    | (go_at_call 59; refine (HB.out _ (by first | exact ⟨0, rfl⟩ | exact ⟨1, rfl⟩ | exact ⟨_, rfl⟩)).mono ?_; rintro e w2 ⟨rfl, rfl⟩)
    | (go_at_call 54; refine (HCC.out _ (by first | exact ⟨0, rfl⟩ | exact ⟨1, rfl⟩ | exact ⟨_, rfl⟩)).mono ?_; rintro e w3 hp; obtain ⟨rfl, hq⟩ := id hp; have HP := Lib.hid hp; clear hp hq))
  all_goals
    go_wp2_with fail
    go_ret
    exact ⟨rfl, RPost.from ((Below.refl _ _).drew) HP.out.2⟩
theorem rDouble_any {N C : Nat} {nodes most : Int} {va : Value} {rs : List Ml} {w : World} (h : RH N C nodes most va rs w) (a b : Int) {i : Int} (hi : (Lit.int .i64 i).wf = true) (hl : rs.length ≤ 1000) (h300 : ∀ m ∈ rs, m.L.length ≤ 300) :
    Calls Try.prog 55 #[.pointer (some ⟨C, 0, none⟩), .int .i64 a, .int .i64 b, .int .i64 i] w (SPost N C nodes most va rs w (cDbl nodes most (abs rs) a b i) (aDbl nodes most (abs rs) a b i)) := by
  unfold cDbl aDbl
  by_cases hc : cName nodes (abs rs) a b i = 0
  · rw [if_pos hc, if_pos hc]
    exact rDouble_ok h a b hi hl h300 hc
  · rw [if_neg hc, if_neg hc]
    refine (rDouble_bad h a b hi hl rfl hc).mono ?_
    rintro e w' ⟨rfl, rfl⟩
    exact ⟨rfl, RPost.same h (Below.refl _ _)⟩
set_option maxHeartbeats 4000000 in
theorem rFlip_arg {N C : Nat} {nodes most : Int} {va : Value} {rs : List Ml} {w : World} (h : RH N C nodes most va rs w) (a b : Int) {i bit : Int} (hi : (Lit.int .i64 i).wf = true) (hl : rs.length ≤ 1000) (h300 : ∀ m ∈ rs, m.L.length ≤ 300) (hc : cName nodes (abs rs) a b i = 0) (hbit : ¬ bitOk (tTake nodes (abs rs) a b i) bit) :
    Calls Try.prog 56 #[.pointer (some ⟨C, 0, none⟩), .int .i64 a, .int .i64 b, .int .i64 i, .int .i64 bit] w fun e w' => e = .returned (.int .i64 2) ∧ w' = w := by
  obtain ⟨ho, h0i, k, m, hpos, hm, hmf, hmt, hpi, hpz, htt⟩ := named_zero hc
  rw [htt] at hbit
  have HA := rNamed_any h a b hi hl
  rw [hc] at HA
  have HB := rAt_any h a b hi hl
  rw [hpz] at HB
  have HA := Lib.hid HA; have HB := Lib.hid HB
  have hkl := (List.getElem?_eq_some_iff.1 hm).1
  have hvr := h.msg m (List.mem_of_getElem? hm)
  have hL3 := h300 m (List.mem_of_getElem? hm)
  obtain ⟨n, hn⟩ : ∃ n, n = rs.length := ⟨_, rfl⟩
  have hrow := h.row
  rw [← hn] at hkl hl hrow
  obtain ⟨g, cap, rfl⟩ : ∃ g cap, va = .slice (some ⟨g, 0, none⟩) n cap := by
    rcases ownsRow_forms hrow with ⟨_, h0⟩ | ⟨g, cp, h⟩
    · omega
    · exact ⟨g, cp, h⟩
  have c2 := h.c2
  obtain ⟨m0, m1, m2⟩ := mcells_get rs k m hm
  have cm : w.cell? ⟨g, k * 3 + 2, none⟩ = some m.v := by
    rw [hrow.cellAt _ (by omega)]; exact m2
  obtain ⟨v, hv⟩ : ∃ v, v = m.v := ⟨_, rfl⟩
  rw [by8_len] at hvr
  obtain ⟨z, hz⟩ : ∃ z, z = m.L.length := ⟨_, rfl⟩
  rw [← hv] at cm hvr
  unfold bitOk at hbit
  rw [← hz] at hvr hL3 hbit
  obtain ⟨ov, cv, hvf⟩ : ∃ ov cv, v = .slice ov z cv := by
    rcases ownsRow_forms hvr with ⟨h, h0⟩ | ⟨g, cp, h⟩
    · exact ⟨none, 0, by rw [h, h0]⟩
    · exact ⟨_, _, h⟩
  have dk : decide ((k : Int) < 0) = false := decide_eq_false (by omega)
  have dk2 : decide ((k : Int) < (n : Int)) = true := decide_eq_true (by omega)
  have ew : IntKind.i64.wrap (8 * (z : Int)) = 8 * (z : Int) := by rw [IntKind.wrap_i64]; omega
  clear h ho h0i hpos hm hmf hmt hpi hpz htt hn hrow hvr m0 m1 m2 hc hi hv h300 hz
  subst hvf
  by_cases hb : bit < 0
  · have e1 : decide (bit < 0) = true := decide_eq_true hb
    clear hbit
    go_enter Try.func56, Try.ntmps56
    go_wp2_with fail
    refine HA.out.mono ?_
    rintro e w1 ⟨rfl, rfl⟩
    go_wp2_with fail
    refine HB.out.mono ?_
    rintro e w1 ⟨rfl, rfl⟩
    go_wp2_with fail
    go_ret
    exact ⟨rfl, rfl⟩
  · have e1 : decide (bit < 0) = false := decide_eq_false hb
    have e2 : decide (8 * (z : Int) ≤ bit) = true := decide_eq_true (by omega)
    clear hbit
    go_enter Try.func56, Try.ntmps56
    go_wp2_with fail
    refine HA.out.mono ?_
    rintro e w1 ⟨rfl, rfl⟩
    go_wp2_with fail
    refine HB.out.mono ?_
    rintro e w1 ⟨rfl, rfl⟩
    go_wp2_with fail
    go_ret
    exact ⟨rfl, rfl⟩
set_option maxHeartbeats 4000000 in
theorem rFlip_ok {N C : Nat} {nodes most : Int} {va : Value} {rs : List Ml} {w : World} (h : RH N C nodes most va rs w) (a b : Int) {i : Int} {bit : Nat} (hi : (Lit.int .i64 i).wf = true) (hl : rs.length ≤ 1000) (h300 : ∀ m ∈ rs, m.L.length ≤ 300) (hc : cName nodes (abs rs) a b i = 0) (hbit : bitOk (tTake nodes (abs rs) a b i) bit) :
    Calls Try.prog 56 #[.pointer (some ⟨C, 0, none⟩), .int .i64 a, .int .i64 b, .int .i64 i, .int .i64 (bit : Int)] w (SPost N C nodes most va rs w 0 (aFlip nodes (abs rs) a b i bit)) := by
  obtain ⟨ho, h0i, k, m, hpos, hm, hmf, hmt, hpi, hpz, htt⟩ := named_zero hc
  have hfl : aFlip nodes (abs rs) a b i bit = (abs rs).set k (a, b, flip m.L bit) := by
    unfold aFlip cFlip
    rw [if_pos hc, if_pos hbit, if_pos rfl, hpi, htt]
    rfl
  rw [htt] at hbit
  have HA := rNamed_any h a b hi hl
  rw [hc] at HA
  have HB := rAt_any h a b hi hl
  rw [hpz] at HB
  have HA := Lib.hid HA; have HB := Lib.hid HB
  have hkl := (List.getElem?_eq_some_iff.1 hm).1
  have hvr := h.msg m (List.mem_of_getElem? hm)
  have hL3 := h300 m (List.mem_of_getElem? hm)
  have hNs : N ≤ w.heap.size := Nat.le_trans h.hC (Nat.le_of_lt h.lt)
  obtain ⟨n, hn⟩ : ∃ n, n = rs.length := ⟨_, rfl⟩
  have hrow := h.row
  rw [← hn] at hkl hl hrow
  obtain ⟨g, cap, rfl⟩ : ∃ g cap, va = .slice (some ⟨g, 0, none⟩) n cap := by
    rcases ownsRow_forms hrow with ⟨_, h0⟩ | ⟨g, cp, h⟩
    · omega
    · exact ⟨g, cp, h⟩
  have hglt : g < w.heap.size := (hrow.lt g rfl).2
  obtain ⟨m0, m1, m2⟩ := mcells_get rs k m hm
  have cm : w.cell? ⟨g, k * 3 + 2, none⟩ = some m.v := by
    rw [hrow.cellAt _ (by omega)]; exact m2
  obtain ⟨u, W1, hr1, own1, hg1⟩ := copy_run (Src.of_own hvr) (by rw [by8_len]; omega) (by8_one m.L)
  have b1 := below_of_grown hg1
  have h1 := h.below b1
  rw [by8_len] at own1 hvr
  obtain ⟨z, hz⟩ : ∃ z, z = m.L.length := ⟨_, rfl⟩
  unfold bitOk at hbit
  rw [← hz] at own1 hvr hL3 hbit
  obtain ⟨q, cu, rfl⟩ : ∃ q cu, u = .slice (some ⟨q, 0, none⟩) z cu := by
    rcases ownsRow_forms own1 with ⟨h, h0⟩ | ⟨g, cp, h⟩
    · omega
    · exact ⟨g, cp, h⟩
  have hq := own1.lt q rfl
  have c2 := h.c2
  obtain ⟨k8, hk8⟩ : ∃ k8, k8 = bit / 8 := ⟨_, rfl⟩
  obtain ⟨r, hr⟩ : ∃ r, r = bit % 8 := ⟨_, rfl⟩
  obtain ⟨x, hx⟩ : ∃ x, x = nth m.L k8 := ⟨_, rfl⟩
  have cx : W1.cell? ⟨q, k8, none⟩ = some (.int .u8 x) := by
    rw [own1.cellAt k8 (by omega), hx]
    have : k8 < m.L.length := by omega
    simp [by8, nth, List.getD_eq_getElem?_getD, this]
  have fx : W1.frozen? ⟨q, k8, none⟩ = false := own1.frozenAt k8
  obtain ⟨W2, hW2⟩ : ∃ W2, W2 = W1.setCell ⟨q, k8, none⟩ (.int .u8 (bits BinOp.xor .u8 x (2 ^ r % 256))) := ⟨_, rfl⟩
  obtain ⟨st, sg⟩ := own1.stored k8 (.int .u8 (bits BinOp.xor .u8 x (2 ^ r % 256)))
  rw [← hW2] at st sg
  have b2 : Below w.heap.size w W2 := b1.grown sg b1.size (fun j e => by cases e; exact hq.1)
  have h2 := h.below b2
  have c22 := h2.c2
  rw [hW2] at c22
  have hrow2 := h2.row
  rw [← hn] at hrow2
  have cg2 : W2.cell? ⟨g, k * 3 + 2, none⟩ = some m.v := by rw [hrow2.cellAt _ (by omega)]; exact m2
  have fg2 : W2.frozen? ⟨g, k * 3 + 2, none⟩ = false := hrow2.frozenAt _
  rw [hW2] at cg2 fg2
  obtain ⟨u, hu⟩ : ∃ u, u = Value.slice (some ⟨q, 0, none⟩) z cu := ⟨_, rfl⟩
  have post : SPost N C nodes most (.slice (some ⟨g, 0, none⟩) n cap) rs w 0 (aFlip nodes (abs rs) a b i bit) (.returned (.int .i64 0)) (W2.setCell ⟨g, k * 3 + 2, none⟩ u) := by
    obtain ⟨gst, gsg⟩ := hrow2.stored (k * 3 + 2) u
    have k5 : ∀ {y : Value} {ys : List Value} {base k : Nat}, W2.ownsRow base 5 1 y k ys → (W2.setCell ⟨g, k * 3 + 2, none⟩ u).ownsRow base 5 1 y k ys ∧ True := fun {y ys base k} hy => ⟨hy.kept (grown_set _ _ _) (by
      cases e : y.ownBlock with
      | none => exact .inl rfl
      | some j => exact .inr (fun e2 => own_apart (C := 0) (B := 0) hrow2 hy (by decide) e2.symm e)), trivial⟩
    have k5' : ∀ {y : Value} {ys : List Value} {base n : Nat}, W2.ownsRow base 5 1 y n ys → (W2.setCell ⟨g, k * 3 + 2, none⟩ u).ownsRow base 5 1 y n ys := fun {y ys base n} hy => hy.kept (grown_set _ _ _) (by
      cases e : y.ownBlock with
      | none => exact .inl rfl
      | some j => exact .inr (fun e2 => own_apart (C := 0) (B := 0) hrow2 hy (by decide) e2.symm e))
    have eL : by8 (flip m.L bit) = (by8 m.L).set k8 (.int .u8 (bits BinOp.xor .u8 x (2 ^ r % 256))) := by
      rw [flip, by8_set, hx, hk8, hr]; rfl
    refine ⟨rfl, .slice (some ⟨g, 0, none⟩) n cap, rs.set k ⟨a, b, flip m.L bit, u⟩, ?_, ⟨h.hC, ?_, ?_, fun m' hm' => ?_⟩, ?_, fun r hr => ?_⟩
    · rw [hfl, abs_set]; rfl
    · rw [heap_setCell_other W2 ⟨g, k * 3 + 2, none⟩ C u (fun e => own_not hrow2 h2.box (by decide) (show (Value.slice (some ⟨g, 0, none⟩) n cap).ownBlock = some C by rw [e]; rfl))]
      exact h2.box
    · rw [mcells_set rs k m ⟨a, b, flip m.L bit, u⟩ hm hmf.symm hmt.symm, List.length_set, ← hn]
      exact gst
    · rcases mem_set_of hm' with hm' | rfl
      · exact k5' (h2.msg m' hm')
      · refine k5' ?_
        show W2.ownsRow N 5 1 u (by8 (flip m.L bit)).length (by8 (flip m.L bit))
        rw [eL, List.length_set, by8_len, ← hz, hu]
        exact row_mono st hNs
    · exact ((Chg.of_below (S := fun _ => False) b2).wide (fun _ _ s => s.elim)).trans (Chg.of_grown (S := fun k => k = C ∨ some k = (Value.slice (some ⟨g, 0, none⟩) n cap).ownBlock) gsg (fun j _ e => .inr e)) (fun _ _ s => s) (fun _ _ s => s)
    · rcases mem_set_of hr with hr | rfl
      · exact .inl ⟨r, hr, rfl⟩
      · exact .inr (fun j e => by rw [hu] at e; cases e; exact hq.1)
  rw [hu, hW2] at post
  obtain ⟨v, hv⟩ : ∃ v, v = m.v := ⟨_, rfl⟩
  rw [← hv] at cm hvr hr1 cg2
  obtain ⟨ov, cv, hvf⟩ : ∃ ov cv, v = .slice ov z cv := by
    rcases ownsRow_forms hvr with ⟨h, h0⟩ | ⟨g, cp, h⟩
    · exact ⟨none, 0, by rw [h, h0]⟩
    · exact ⟨_, _, h⟩
  have c21 := h1.c2
  have cm1 : W1.cell? ⟨g, k * 3 + 2, none⟩ = some v := (b1.cell hglt).trans cm
  have dk : decide ((k : Int) < 0) = false := decide_eq_false (by omega)
  have dk2 : decide ((k : Int) < (n : Int)) = true := decide_eq_true (by omega)
  have ew : IntKind.i64.wrap (8 * (z : Int)) = 8 * (z : Int) := by rw [IntKind.wrap_i64]; omega
  have e1 : decide ((bit : Int) < 0) = false := decide_eq_false (by omega)
  have e2 : decide (8 * (z : Int) ≤ (bit : Int)) = false := decide_eq_false (by omega)
  have q1 : Int.tdiv (bit : Int) 8 = (k8 : Int) := by rw [Int.tdiv_eq_ediv_of_nonneg (by omega)]; omega
  have q2 : Int.tmod (bit : Int) 8 = (r : Int) := by rw [Int.tmod_eq_emod_of_nonneg (by omega)]; omega
  have hkz : k8 < z := by omega
  have hr8 : r < 8 := by omega
  have dk8 : decide ((k8 : Int) < (z : Int)) = true := decide_eq_true (by omega)
  have HP := Lib.hid post
  clear h ho h0i hpos hm hmf hmt hpi hpz htt hn hrow hrow2 hvr m0 m1 m2 hc hi hv h300 hz hu hW2 st sg b1 b2 h1 h2 own1 hg1 hfl hx hk8 hr post hq hglt
  subst hvf
  go_enter Try.func56, Try.ntmps56
  go_wp2_with fail
  refine HA.out.mono ?_
  rintro e w1 ⟨rfl, rfl⟩
  go_wp2_with fail
  refine HB.out.mono ?_
  rintro e w1 ⟨rfl, rfl⟩
  go_wp2_with (at_builtin; refine wpList_append_run rfl rfl (s := .tmp 43) (x := .tmp 51) (t := 34) rfl rfl hr1 ?_)
  go_region
  all_goals
    go_wp2_with fail
    go_ret
    exact ⟨rfl, RPost.drew HP.out.2⟩
end Go.Proofs.Ytklkhlipecphkaa
