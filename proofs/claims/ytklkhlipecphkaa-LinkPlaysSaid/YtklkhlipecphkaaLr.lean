/- Link: the program's functions, whatever is asked. -/
import Derived.Test.YtklkhlipecphkaaLq
import Derived.Deep.QuietTactic
import Derived.BigQuiet
namespace Go.Proofs.Ytklkhlipecphkaa
open Go.RowKit Go.Joins Go.Maps
set_option maxRecDepth 100000
set_option linter.unusedVariables false

theorem wf_small {a : Int} (h0 : -9223372036854775808 ≤ a) (h1 : a ≤ 9223372036854775807) : (Lit.int .i64 a).wf = true := by
  have e1 : IntKind.i64.min = -9223372036854775808 := by kernel_rfl
  have e2 : IntKind.i64.max = 9223372036854775807 := by kernel_rfl
  simp only [Lit.wf, e1, e2, Bool.and_eq_true, decide_eq_true_eq]
  exact ⟨h0, h1⟩
theorem small_wf {a : Int} (h : (Lit.int .i64 a).wf = true) : -9223372036854775808 ≤ a ∧ a ≤ 9223372036854775807 := by
  have e1 : IntKind.i64.min = -9223372036854775808 := by kernel_rfl
  have e2 : IntKind.i64.max = 9223372036854775807 := by kernel_rfl
  simp only [Lit.wf, e1, e2, Bool.and_eq_true, decide_eq_true_eq] at h
  exact h
theorem key_any {a b : Int} (wa : (Lit.int .i64 a).wf = true) (wb : (Lit.int .i64 b).wf = true) : ∃ kl, keyOf Try.prog 92 (wv a b) = some kl := by
  have hu := Try.underlying92
  have ht : Try.prog.types.size = 119 := by kernel_rfl
  have hkt : Try.prog.keyType 92 = true := by kernel_rfl
  have hc : Try.prog.cellsOf 92 = 2 := by kernel_rfl
  have hf : (wv a b).formed Try.prog 92 = true := by simp [wv, Value.formed, hu, hc]
  have h3 := Try.underlying3
  have c3 : Try.prog.cellsOf 3 = 1 := by kernel_rfl
  have k3 : ∀ x : Int, (Lit.int .i64 x).wf = true → Try.prog.keyLits 119 3 [.int .i64 x] = some [.int .i64 x] := fun x hx => by
    rw [show (119 : Nat) = 118 + 1 from rfl]
    unfold Program.keyLits
    simp only [h3, true_and, if_pos hx]
  have hl : Try.prog.keyLits (119 + 1) 92 [.int .i64 a, .int .i64 b] = some [.int .i64 a, .int .i64 b] := by
    unfold Program.keyLits
    simp only [hu, hc]
    rw [if_pos (by refine ⟨rfl, ?_⟩; kernel_rfl)]
    simp [c3, k3 a wa, k3 b wb]
  unfold keyOf
  simp only [hu, hkt, hf, Bool.and_self, if_true, ht]
  simp only [wv, Value.cells, hl]
  exact ⟨_, rfl⟩

theorem node_low {N B M : Nat} {nodes most : Int} {f : Lit → Option Value} {n : Nat} {w : World} (h : Net N B M nodes most f n w) {a : Int} (h0 : a < 0) :
    Calls Try.prog 60 #[.pointer (some ⟨B, 0, none⟩), .int .i64 a] w fun e w' => e = .returned (.bool false) ∧ w' = w := by
  have d1 : decide (0 ≤ a) = false := decide_eq_false (by omega)
  clear h
  go_enter Try.func60, Try.ntmps60
  go_wp2_with fail
  go_ret
  exact ⟨rfl, rfl⟩
theorem node_high {N B M : Nat} {nodes most : Int} {f : Lit → Option Value} {n : Nat} {w : World} (h : Net N B M nodes most f n w) {a : Int} (h0 : 0 ≤ a) (h1 : nodes ≤ a) :
    Calls Try.prog 60 #[.pointer (some ⟨B, 0, none⟩), .int .i64 a] w fun e w' => e = .returned (.bool false) ∧ w' = w := by
  have c0 := h.c0
  have d1 : decide (0 ≤ a) = true := decide_eq_true h0
  have d2 : decide (a < nodes) = false := decide_eq_false (by omega)
  clear h
  go_enter Try.func60, Try.ntmps60
  go_wp2_with fail
  go_ret
  exact ⟨rfl, rfl⟩
theorem node_no {N B M : Nat} {nodes most : Int} {f : Lit → Option Value} {n : Nat} {w : World} (h : Net N B M nodes most f n w) {a : Int} (ha : ¬ (0 ≤ a ∧ a < nodes)) :
    Calls Try.prog 60 #[.pointer (some ⟨B, 0, none⟩), .int .i64 a] w fun e w' => e = .returned (.bool false) ∧ w' = w := by
  by_cases h0 : a < 0
  · exact node_low h h0
  · exact node_high h (by omega) (by omega)
set_option maxHeartbeats 1000000 in
theorem asked_from {N B M : Nat} {nodes most : Int} {f : Lit → Option Value} {n : Nat} {w : World} (h : Net N B M nodes most f n w) (hn : 0 < nodes) {a b : Int} (ha : ¬ (0 ≤ a ∧ a < nodes)) :
    Calls Try.prog 48 #[.pointer (some ⟨B, 0, none⟩), .agg #[.int .i64 a, .int .i64 b]] w fun e w' => e = .returned (.int .i64 190) ∧ Below w.heap.size w w' := by
  have HK := Lib.hid (h.below ((Below.refl _ w).alloc (Nat.le_refl _) (Obj.cells #[.int .i64 a, .int .i64 b] 92)))
  have HA := Lib.hid ha
  clear h ha
  go_enter Try.func48, Try.ntmps48
  go_wp2_with fail
  refine (lis_yes HK.out (by omega)).mono ?_
  rintro e w1 ⟨rfl, rfl⟩
  go_wp2_with fail
  refine (node_no HK.out HA.out).mono ?_
  rintro e w1 ⟨rfl, rfl⟩
  go_wp2_with fail
  go_ret
  exact ⟨rfl, (Below.refl _ _).alloc (Nat.le_refl _) _⟩
set_option maxHeartbeats 1000000 in
theorem asked_to {N B M : Nat} {nodes most : Int} {f : Lit → Option Value} {n : Nat} {w : World} (h : Net N B M nodes most f n w) {a b : Int} (h0 : 0 ≤ a) (h1 : a < nodes) (hb : ¬ (0 ≤ b ∧ b < nodes)) :
    Calls Try.prog 48 #[.pointer (some ⟨B, 0, none⟩), .agg #[.int .i64 a, .int .i64 b]] w fun e w' => e = .returned (.int .i64 190) ∧ Below w.heap.size w w' := by
  have HK := Lib.hid (h.below ((Below.refl _ w).alloc (Nat.le_refl _) (Obj.cells #[.int .i64 a, .int .i64 b] 92)))
  have HB := Lib.hid hb
  clear h hb
  go_enter Try.func48, Try.ntmps48
  go_wp2_with fail
  refine (lis_yes HK.out (by omega)).mono ?_
  rintro e w1 ⟨rfl, rfl⟩
  go_wp2_with fail
  refine (node_yes HK.out h0 h1).mono ?_
  rintro e w1 ⟨rfl, rfl⟩
  go_wp2_with fail
  refine (node_no HK.out HB.out).mono ?_
  rintro e w1 ⟨rfl, rfl⟩
  go_wp2_with fail
  go_ret
  exact ⟨rfl, (Below.refl _ _).alloc (Nat.le_refl _) _⟩
theorem asked_bad {N B M : Nat} {nodes most : Int} {f : Lit → Option Value} {n : Nat} {w : World} (h : Net N B M nodes most f n w) (hn : 0 < nodes) {a b : Int} (ho : ¬ OkW nodes a b) :
    Calls Try.prog 48 #[.pointer (some ⟨B, 0, none⟩), .agg #[.int .i64 a, .int .i64 b]] w fun e w' => e = .returned (.int .i64 190) ∧ Below w.heap.size w w' := by
  by_cases ha : 0 ≤ a ∧ a < nodes
  · by_cases hb : 0 ≤ b ∧ b < nodes
    · by_cases e : a = b
      · subst e; exact asked_same h ha.1 ha.2
      · exact absurd ⟨ha.1, ha.2, hb.1, hb.2, e⟩ ho
    · exact asked_to h ha.1 ha.2 hb
  · exact asked_from h hn ha
set_option maxHeartbeats 1000000 in
theorem named_way {N B M : Nat} {nodes most : Int} {f : Lit → Option Value} {n : Nat} {w : World} (h : Net N B M nodes most f n w) (hn : 0 < nodes) {a b : Int} (ho : ¬ OkW nodes a b) (i : Int) :
    Calls Try.prog 51 #[.pointer (some ⟨B, 0, none⟩), .agg #[.int .i64 a, .int .i64 b], .int .i64 i] w fun e w' => e = .returned (.int .i64 190) ∧ Below w.heap.size w w' := by
  have H := Lib.hid h; have HO := Lib.hid ho
  clear h ho
  go_enter Try.func51, Try.ntmps51
  go_wp2_with fail
  refine (asked_bad (H.out.below ((Below.refl _ w).alloc (Nat.le_refl _) (Obj.cells #[.int .i64 a, .int .i64 b] 92))) hn HO.out).mono ?_
  rintro e w1 ⟨rfl, hb⟩
  have HW := Lib.hid (Below.step hb)
  clear hb
  go_wp2_with fail
  go_ret
  exact ⟨rfl, HW.out⟩
set_option maxHeartbeats 1000000 in
theorem named_neg {N B M : Nat} {nodes most : Int} {f : Lit → Option Value} {n : Nat} {w : World} (h : Net N B M nodes most f n w) {a b : Int} (ho : OkW nodes a b) {i : Int} (hi : i < 0) :
    Calls Try.prog 51 #[.pointer (some ⟨B, 0, none⟩), .agg #[.int .i64 a, .int .i64 b], .int .i64 i] w fun e w' => e = .returned (.int .i64 191) ∧ Below w.heap.size w w' := by
  have H := Lib.hid h; have HO := Lib.hid ho
  have d1 : decide (i < 0) = true := decide_eq_true hi
  clear h ho
  go_enter Try.func51, Try.ntmps51
  go_wp2_with fail
  refine (asked_ok (H.out.below ((Below.refl _ w).alloc (Nat.le_refl _) (Obj.cells #[.int .i64 a, .int .i64 b] 92))) HO.out.a0 HO.out.a1 HO.out.b0 HO.out.b1 HO.out.ne).mono ?_
  rintro e w1 ⟨rfl, hb⟩
  have n1 := H.out.below (Below.step hb)
  obtain ⟨kc0, kc1⟩ := keycell (Below.newObj hb)
  have c2 := n1.c2
  have HW := Lib.hid (Below.step hb)
  clear hb n1
  go_wp2_with fail
  go_quiet (fail)
  go_wp2_with fail
  go_ret
  exact ⟨rfl, ⟨HW.out.os, HW.out.tape, HW.out.output, HW.out.size, HW.out.block⟩⟩
set_option maxHeartbeats 1000000 in
theorem named_past {N B M : Nat} {nodes most : Int} {f : Lit → Option Value} {n : Nat} {w : World} (h : Net N B M nodes most f n w) {a b : Int} {kl : Lit} (hkey : keyOf Try.prog 92 (wv a b) = some kl)
    (ho : OkW nodes a b) {us : List Value} (hrow : w.ownsRow N 34 1 ((f kl).getD (.slice none 0 0)) us.length us) {i : Int} (hi0 : 0 ≤ i) (hi1 : (us.length : Int) ≤ i) :
    Calls Try.prog 51 #[.pointer (some ⟨B, 0, none⟩), .agg #[.int .i64 a, .int .i64 b], .int .i64 i] w fun e w' => e = .returned (.int .i64 191) ∧ Below w.heap.size w w' := by
  have H := Lib.hid h; have HO := Lib.hid ho
  obtain ⟨v, hv⟩ : ∃ v, v = (f kl).getD (.slice none 0 0) := ⟨_, rfl⟩
  rw [← hv] at hrow
  obtain ⟨m, hm⟩ : ∃ m, m = us.length := ⟨_, rfl⟩
  rw [← hm] at hrow hi1
  clear hm
  obtain ⟨oa, cap, rfl⟩ : ∃ oa cap, v = .slice oa m cap := by
    rcases ownsRow_forms hrow with ⟨h, h0⟩ | ⟨g, cp, h⟩
    · exact ⟨none, 0, by rw [h, h0]⟩
    · exact ⟨_, cp, h⟩
  have HV := Lib.hid hv
  have d1 : decide (i < 0) = false := decide_eq_false (by omega)
  have d2 : decide ((m : Int) ≤ i) = true := decide_eq_true (by omega)
  clear h ho hrow hv hi1
  go_enter Try.func51, Try.ntmps51
  go_wp2_with fail
  refine (asked_ok (H.out.below ((Below.refl _ w).alloc (Nat.le_refl _) (Obj.cells #[.int .i64 a, .int .i64 b] 92))) HO.out.a0 HO.out.a1 HO.out.b0 HO.out.b1 HO.out.ne).mono ?_
  rintro e w1 ⟨rfl, hb⟩
  have n1 := H.out.below (Below.step hb)
  obtain ⟨kc0, kc1⟩ := keycell (Below.newObj hb)
  have hl := rows_look (w := w1.drew) n1.drew.map hkey
  rw [← HV.out] at hl
  unfold wv at hl
  have c2 := n1.c2
  have HW := Lib.hid (Below.step hb)
  clear hb n1
  go_wp2_with fail
  go_region_held (fun W => W.cell? ⟨B, 2, none⟩ = some (.map (some M)) ∧ W.cell? ⟨w.heap.size, 0, none⟩ = some (.int .i64 a) ∧ W.cell? ⟨w.heap.size, 1, none⟩ = some (.int .i64 b)) (exact ⟨c2, kc0, kc1⟩) (fail)
  go_wp2_with fail
  go_ret
  exact ⟨rfl, HW.out.drew⟩

theorem PH.pos0 {N B M : Nat} {nodes most : Int} {f : Lit → Option Value} {n : Nat} {ps : List Ml} {w : World} (h : PH N B M nodes most f n ps w) {a b i : Int} (hi : 0 ≤ i) : posI a b i (abs ps) = pos (wayM a b) ps i.toNat := by
  rw [posI, if_neg (by omega), abs_pos]
theorem OkW.wf {nodes a b : Int} (h : OkW nodes a b) (hn : nodes ≤ 65) : (Lit.int .i64 a).wf = true ∧ (Lit.int .i64 b).wf = true := by
  have := h.a0; have := h.a1; have := h.b0; have := h.b1
  exact ⟨wf_small (by omega) (by omega), wf_small (by omega) (by omega)⟩
theorem named_any {N B M : Nat} {nodes most : Int} {f : Lit → Option Value} {n : Nat} {ps : List Ml} {w : World} (h : PH N B M nodes most f n ps w) (hn : 0 < nodes) (hn2 : nodes ≤ 65) (a b i : Int) :
    Calls Try.prog 51 #[.pointer (some ⟨B, 0, none⟩), .agg #[.int .i64 a, .int .i64 b], .int .i64 i] w fun e w' => e = .returned (.int .i64 (cName nodes (abs ps) a b i)) ∧ Below w.heap.size w w' := by
  unfold cName
  by_cases ho : OkW nodes a b
  · rw [if_pos ho]
    by_cases hi : i < 0
    · rw [if_neg (by simp [posI, hi])]
      exact named_neg h.net ho hi
    · obtain ⟨kl, hkl⟩ := key_any (ho.wf hn2).1 (ho.wf hn2).2
      have hrow := h.row a b kl ho hkl
      rw [h.pos0 (by omega)]
      cases hp : pos (wayM a b) ps i.toNat with
      | none =>
        have h1 := pos_none hp
        rw [if_neg (by simp)]
        exact named_past h.net hkl ho hrow (by omega) (by rw [usOf, List.length_map]; omega)
      | some k =>
        have h1 := pos_ilt hp
        rw [if_pos (by simp)]
        exact named_ok h.net hkl ho.a0 ho.a1 ho.b0 ho.b1 ho.ne hrow (by omega) (by rw [usOf, List.length_map]; omega)
  · rw [if_neg ho]
    exact named_way h.net hn ho i
/-- Every way has its row, those that are none too. -/
theorem PH.look {N B M : Nat} {nodes most : Int} {f : Lit → Option Value} {n : Nat} {ps : List Ml} {w : World} (h : PH N B M nodes most f n ps w) {a b : Int} (wa : (Lit.int .i64 a).wf = true) (wb : (Lit.int .i64 b).wf = true) :
    ∃ kl, keyOf Try.prog 92 (wv a b) = some kl ∧ w.ownsRow N 34 1 ((f kl).getD (.slice none 0 0)) (usOf ps a b).length (usOf ps a b) := by
  obtain ⟨kl, hk⟩ := key_any wa wb
  refine ⟨kl, hk, ?_⟩
  by_cases ho : OkW nodes a b
  · exact h.row a b kl ho hk
  · have h1 : usOf ps a b = [] := by
      rw [usOf, List.map_eq_nil_iff, List.filter_eq_nil_iff]
      intro m hm hw
      have := h.ok m hm
      have hw := wayM_iff.1 hw
      rw [hw.1, hw.2] at this
      exact ho this
    have h2 : f kl = none := by
      cases hf : f kl with
      | none => rfl
      | some v =>
        obtain ⟨a', b', ho', hk'⟩ := h.dom kl v hf
        by_cases e : a' = a ∧ b' = b
        · rw [e.1, e.2] at ho'; exact absurd ho' ho
        · exact absurd rfl (key_ne hk' hk e)
    rw [h1, h2]
    exact World.ownsRow_nil _ _ _ _
theorem pWaits_any {N B M : Nat} {nodes most : Int} {f : Lit → Option Value} {n : Nat} {ps : List Ml} {w : World} (h : PH N B M nodes most f n ps w) (hn : 0 < nodes) {a b : Int} (wa : (Lit.int .i64 a).wf = true) (wb : (Lit.int .i64 b).wf = true) :
    Calls Try.prog 19 #[.pointer (some ⟨B, 0, none⟩), .int .i64 a, .int .i64 b] w fun e w' => e = .returned (.int .i64 (nw (abs ps) a b)) ∧ w' = w := by
  obtain ⟨kl, hk, hrow⟩ := h.look wa wb
  have := Waits_ok h.net hn hk hrow
  rw [usOf_len] at this
  exact this
set_option maxHeartbeats 1000000 in
theorem Send_bad {N B M : Nat} {nodes most : Int} {f : Lit → Option Value} {n : Nat} {w : World} (h : Net N B M nodes most f n w) (hn : 0 < nodes) {a b : Int} (ho : ¬ OkW nodes a b) (u : Value) :
    Calls Try.prog 18 #[.pointer (some ⟨B, 0, none⟩), .int .i64 a, .int .i64 b, u] w fun e w' => e = .returned (.int .i64 190) ∧ Below w.heap.size w w' := by
  have H := Lib.hid h; have HO := Lib.hid ho
  clear h ho
  go_enter Try.func18, Try.ntmps18
  go_wp2_with fail
  refine (asked_bad (H.out.below ((Below.refl _ w).alloc (Nat.le_refl _) (Obj.cells #[.int .i64 a, .int .i64 b] 92))) hn HO.out).mono ?_
  rintro e w1 ⟨rfl, hb⟩
  have HW := Lib.hid (Below.step hb)
  clear hb
  go_wp2_with fail
  go_ret
  exact ⟨rfl, HW.out⟩
set_option maxHeartbeats 1000000 in
theorem Take_bad {N B M : Nat} {nodes most : Int} {f : Lit → Option Value} {n : Nat} {ps : List Ml} {w : World} (h : PH N B M nodes most f n ps w) (hn : 0 < nodes) (hn2 : nodes ≤ 65) {a b i c : Int} (hc : cName nodes (abs ps) a b i = c) (h0 : c ≠ 0) :
    Calls Try.prog 20 #[.pointer (some ⟨B, 0, none⟩), .int .i64 a, .int .i64 b, .int .i64 i] w fun e w' => e = .returned (.tuple #[.slice none 0 0, .int .i64 c]) ∧ Below w.heap.size w w' := by
  have H := Lib.hid h; have HC := Lib.hid hc
  have z1 : (c != 0) = true := by simpa using h0
  have z2 : (c == 0) = false := by simpa using h0
  have z3 : decide (c = 0) = false := by simpa using h0
  clear h hc h0
  go_enter Try.func20, Try.ntmps20
  go_wp2_with fail
  refine (named_any (H.out.below ((Below.refl _ w).alloc (Nat.le_refl _) (Obj.cells #[.int .i64 a, .int .i64 b] 92))) hn hn2 a b i).mono ?_
  rintro e w1 ⟨rfl, hb⟩
  have HW := Lib.hid (Below.step hb)
  clear hb
  rw [HC.out]
  go_wp2_with fail
  go_ret2
  exact ⟨rfl, HW.out⟩
set_option maxHeartbeats 1000000 in
theorem Double_bad {N B M : Nat} {nodes most : Int} {f : Lit → Option Value} {n : Nat} {ps : List Ml} {w : World} (h : PH N B M nodes most f n ps w) (hn : 0 < nodes) (hn2 : nodes ≤ 65) {a b i c : Int} (hc : cName nodes (abs ps) a b i = c) (h0 : c ≠ 0) :
    Calls Try.prog 29 #[.pointer (some ⟨B, 0, none⟩), .int .i64 a, .int .i64 b, .int .i64 i] w fun e w' => e = .returned (.int .i64 c) ∧ Below w.heap.size w w' := by
  have H := Lib.hid h; have HC := Lib.hid hc
  have z1 : (c != 0) = true := by simpa using h0
  have z2 : (c == 0) = false := by simpa using h0
  have z3 : decide (c = 0) = false := by simpa using h0
  clear h hc h0
  go_enter Try.func29, Try.ntmps29
  go_wp2_with fail
  refine (named_any (H.out.below ((Below.refl _ w).alloc (Nat.le_refl _) (Obj.cells #[.int .i64 a, .int .i64 b] 92))) hn hn2 a b i).mono ?_
  rintro e w1 ⟨rfl, hb⟩
  have HW := Lib.hid (Below.step hb)
  clear hb
  rw [HC.out]
  go_wp2_with fail
  go_ret
  exact ⟨rfl, HW.out⟩
set_option maxHeartbeats 1000000 in
theorem Flip_bad {N B M : Nat} {nodes most : Int} {f : Lit → Option Value} {n : Nat} {ps : List Ml} {w : World} (h : PH N B M nodes most f n ps w) (hn : 0 < nodes) (hn2 : nodes ≤ 65) {a b i c : Int} (hc : cName nodes (abs ps) a b i = c) (h0 : c ≠ 0) (bit : Int) :
    Calls Try.prog 30 #[.pointer (some ⟨B, 0, none⟩), .int .i64 a, .int .i64 b, .int .i64 i, .int .i64 bit] w fun e w' => e = .returned (.int .i64 c) ∧ Below w.heap.size w w' := by
  have H := Lib.hid h; have HC := Lib.hid hc
  have z1 : (c != 0) = true := by simpa using h0
  have z2 : (c == 0) = false := by simpa using h0
  have z3 : decide (c = 0) = false := by simpa using h0
  clear h hc h0
  go_enter Try.func30, Try.ntmps30
  go_wp2_with fail
  refine (named_any (H.out.below ((Below.refl _ w).alloc (Nat.le_refl _) (Obj.cells #[.int .i64 a, .int .i64 b] 92))) hn hn2 a b i).mono ?_
  rintro e w1 ⟨rfl, hb⟩
  have HW := Lib.hid (Below.step hb)
  clear hb
  rw [HC.out]
  go_wp2_with fail
  go_ret
  exact ⟨rfl, HW.out⟩
end Go.Proofs.Ytklkhlipecphkaa
