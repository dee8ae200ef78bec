/- Link: Flip. -/
import Derived.Test.YtklkhlipecphkaaLe
namespace Go.Proofs.Ytklkhlipecphkaa
open Go.RowKit Go.Joins Go.Maps
set_option maxRecDepth 100000
set_option linter.unusedVariables false

def flipb (x : Int) (r : Nat) : Int := bits BinOp.xor .u8 x (2 ^ r % 256)
def flip (L : List Int) (bit : Nat) : List Int := L.set (bit / 8) (flipb (nth L (bit / 8)) (bit % 8))
theorem flip_len (L : List Int) (bit : Nat) : (flip L bit).length = L.length := List.length_set
theorem by8_set (L : List Int) (k : Nat) (y : Int) : by8 (L.set k y) = (by8 L).set k (.int .u8 y) := List.map_set
set_option maxHeartbeats 4000000 in
theorem Flip_ok {N B M : Nat} {nodes most : Int} {f : Lit → Option Value} {n : Nat} {w : World} (h : Net N B M nodes most f n w) {a b : Int} {kl : Lit} (hkey : keyOf Try.prog 92 (wv a b) = some kl)
    (h0 : 0 ≤ a) (h1 : a < nodes) (h2 : 0 ≤ b) (h3 : b < nodes) (hab : a ≠ b) {us : List Value}
    (hrow : w.ownsRow N 34 1 ((f kl).getD (.slice none 0 0)) us.length us) {i : Nat} {u : Value} (hi : us[i]? = some u)
    {L : List Int} (hu : w.ownsRow N 5 1 u (by8 L).length (by8 L)) {bit : Nat} (hbit : bit < 8 * L.length) (hL : L.length ≤ 70000) :
    Calls Try.prog 30 #[.pointer (some ⟨B, 0, none⟩), .int .i64 a, .int .i64 b, .int .i64 i, .int .i64 (bit : Int)] w fun e w' => e = .returned (.int .i64 0) ∧ w'.ownsRow N 5 1 u (by8 (flip L bit)).length (by8 (flip L bit)) ∧ Chg (fun k => some k = u.ownBlock) w w' := by
  have hilt : i < us.length := (List.getElem?_eq_some_iff.1 hi).1
  obtain ⟨x, hx⟩ : ∃ x, x = nth L (bit / 8) := ⟨_, rfl⟩
  rw [by8_len] at hu
  obtain ⟨nL, hnL⟩ : ∃ nL, nL = L.length := ⟨_, rfl⟩
  rw [← hnL] at hu hbit hL
  obtain ⟨q, cu, rfl⟩ : ∃ g cu, u = .slice (some ⟨g, 0, none⟩) nL cu := by
    rcases ownsRow_forms hu with ⟨h, h0⟩ | ⟨g, cp, h⟩
    · omega
    · exact ⟨g, cp, h⟩
  have H := Lib.hid h; have HR := Lib.hid hrow; have H3 := Lib.hid h3; have H1 := Lib.hid h1; have HA := Lib.hid hab; have HI := Lib.hid hilt; have HU := Lib.hid hi; have HM := Lib.hid hu; have HX := Lib.hid hx; have HNL := Lib.hid hnL
  clear h hrow h3 h1 hab hilt hi hu hx hnL
  go_enter Try.func30, Try.ntmps30
  go_wp2_with fail
  have A0 := (Below.refl _ w).alloc (Nat.le_refl _) (Obj.cells #[.int .i64 a, .int .i64 b] 92)
  refine (named_ok (H.out.below A0) hkey h0 H1.out h2 H3.out HA.out (row_below HR.out A0) (i := (i : Int)) (by omega) (by have := HI.out; omega)).mono ?_
  rintro e w1 ⟨rfl, hb⟩
  have hw := Below.step hb
  have n1 := H.out.below hw
  have hT := Below.newObj hb
  obtain ⟨kc0, kc1⟩ := keycell hT
  have hl := rows_look (w := w1.drew) n1.drew.map hkey
  have row1 := row_below HR.out hw
  have msg1 := row_below HM.out hw
  obtain ⟨v, hv⟩ : ∃ v, v = (f kl).getD (.slice none 0 0) := ⟨_, rfl⟩
  have HV := Lib.hid hv
  rw [← hv] at hl row1
  unfold wv at hl
  obtain ⟨m, hm'⟩ : ∃ m, m = us.length := ⟨_, rfl⟩
  have hilt := HI.out
  rw [← hm'] at row1 hilt
  obtain ⟨g, cap, rfl⟩ : ∃ g cap, v = .slice (some ⟨g, 0, none⟩) m cap := by
    rcases ownsRow_forms row1 with ⟨h, h0⟩ | ⟨g, cp, h⟩
    · omega
    · exact ⟨g, cp, h⟩
  have cg : w1.cell? ⟨g, i, none⟩ = some (.slice (some ⟨q, 0, none⟩) nL cu) := by rw [row1.cellAt i (by omega)]; exact HU.out
  have c2 := n1.c2
  have HW := Lib.hid hw; have HMS := Lib.hid msg1
  have db : decide ((i : Int) < 0) = false := decide_eq_false (by omega)
  have db2 : decide ((i : Int) < (m : Int)) = true := decide_eq_true (by omega)
  have e1 : decide ((bit : Int) < 0) = false := decide_eq_false (by omega)
  have ew : IntKind.i64.wrap (8 * (nL : Int)) = 8 * (nL : Int) := by rw [IntKind.wrap_i64]; omega
  have e2 : decide (8 * (nL : Int) ≤ (bit : Int)) = false := decide_eq_false (by omega)
  clear hv hb hw n1 row1 hm' hT msg1
  go_wp2_with fail
  go_region_held (fun W => W.cell? ⟨B, 2, none⟩ = some (.map (some M)) ∧ W.cell? ⟨w.heap.size, 0, none⟩ = some (.int .i64 a) ∧ W.cell? ⟨w.heap.size, 1, none⟩ = some (.int .i64 b) ∧ W.cell? ⟨g, i, none⟩ = some (.slice (some ⟨q, 0, none⟩) nL cu)) (exact ⟨c2, kc0, kc1, cg⟩) (fail)
  go_wp2_with fail
  obtain ⟨k, hk⟩ : ∃ k, k = bit / 8 := ⟨_, rfl⟩
  obtain ⟨r, hr⟩ : ∃ r, r = bit % 8 := ⟨_, rfl⟩
  have q1 : Int.tdiv (bit : Int) 8 = (k : Int) := by rw [Int.tdiv_eq_ediv_of_nonneg (by omega)]; omega
  have q2 : Int.tmod (bit : Int) 8 = (r : Int) := by rw [Int.tmod_eq_emod_of_nonneg (by omega)]; omega
  have hkl : k < nL := by omega
  have hr8 : r < 8 := by omega
  have cx : w1.cell? ⟨q, k, none⟩ = some (.int .u8 x) := by
    rw [HMS.out.cellAt k (by omega), HX.out, ← hk]
    have : k < L.length := by rw [← HNL.out]; exact hkl
    simp [by8, nth, List.getD_eq_getElem?_getD, this]
  have fx : w1.frozen? ⟨q, k, none⟩ = false := HMS.out.frozenAt k
  have dk : decide ((k : Int) < (nL : Int)) = true := decide_eq_true (by omega)
  have HKK := Lib.hid hk; have HRR := Lib.hid hr
  clear hk hr
  go_region
  all_goals
    go_wp2_with fail
    go_ret
    refine ⟨rfl, ?_, ?_⟩
    · have st := (HMS.out.stored k (.int .u8 (bits BinOp.xor .u8 x (2 ^ r % 256)))).1.drew.drew
      have e : by8 (flip L bit) = (by8 L).set k (.int .u8 (bits BinOp.xor .u8 x (2 ^ r % 256))) := by
        rw [flip, by8_set, HX.out, HKK.out, HRR.out]; rfl
      rw [e, List.length_set, by8_len, ← HNL.out]
      exact st
    · have g1 := (HMS.out.stored k (.int .u8 (bits BinOp.xor .u8 x (2 ^ r % 256)))).2
      have g2 : w1.grownBy (w1.setCell ⟨q, k, none⟩ (.int .u8 (bits BinOp.xor .u8 x (2 ^ r % 256)))).drew.drew (some q) := ⟨g1.os, g1.tape, g1.output, g1.size, g1.block⟩
      exact Chg.trans (S := fun _ => False) (T := fun z => some z = some q) (Chg.of_below HW.out) (Chg.of_grown g2 (fun _ _ e => e)) (fun _ _ h => h.elim) (fun _ _ h => h)
end Go.Proofs.Ytklkhlipecphkaa
