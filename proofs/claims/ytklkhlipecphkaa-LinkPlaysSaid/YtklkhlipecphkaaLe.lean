/- Link: the reference's Same, Double, Flip. -/
import Derived.Test.YtklkhlipecphkaaLd
namespace Go.Proofs.Ytklkhlipecphkaa
open Go.RowKit Go.Joins Go.Maps
set_option maxRecDepth 100000
set_option linter.unusedVariables false

def nth (L : List Int) (j : Nat) : Int := L.getD j 0
def by8 (L : List Int) : List Value := L.map (Value.int .u8)
theorem by8_one (L : List Int) : ∀ u ∈ by8 L, u.oneCell' = true := by
  intro u hu
  obtain ⟨x, -, rfl⟩ := List.mem_map.1 hu
  rfl
theorem by8_len (L : List Int) : (by8 L).length = L.length := List.length_map _
/-- A slice that reads as the list, wherever it lies. -/
def Reads (w : World) (v : Value) (L : List Int) : Prop := ∃ oa cap, v = .slice oa L.length cap ∧ ∀ j, j < L.length → ∃ a, oa = some a ∧ w.cell? (a.add j) = some (.int .u8 (nth L j))

theorem Same_len (oa ob : Option Addr) (n m ca cb : Nat) (w : World) (hn : n ≠ m) (hn2 : n ≤ maxLen) (hm2 : m ≤ maxLen) :
    Calls Try.prog 21 #[.slice oa n ca, .slice ob m cb] w fun e w' => e = .returned (.bool false) ∧ Below w.heap.size w w' := by
  have h1 : ((n : Int) == (m : Int)) = false := by simp; omega
  have h2 : decide ((n : Int) = (m : Int)) = false := by simp; omega
  have h3 : ((n : Int) != (m : Int)) = true := by simp; omega
  go_enter Try.func21, Try.ntmps21
  go_wp2_with fail
  go_ret
  exact ⟨rfl, Below.refl _ _⟩
theorem Same_zero (oa ob : Option Addr) (ca cb : Nat) (w : World) :
    Calls Try.prog 21 #[.slice oa 0 ca, .slice ob 0 cb] w fun e w' => e = .returned (.bool true) ∧ Below w.heap.size w w' := by
  go_enter Try.func21, Try.ntmps21
  go_wp2_with fail
  refine wp_loop_rounds 1 ?_
  rw [rounds_succ]
  go_wp2_with fail
  go_ret
  exact ⟨rfl, Below.refl _ _⟩
set_option maxHeartbeats 2000000 in
theorem Same_some (a b : Addr) (n ca cb : Nat) (A B : Nat → Int) (w : World) (hn : 0 < n) (hn2 : n ≤ maxLen) (ha : ∀ j, j < n → w.cell? (a.add j) = some (.int .u8 (A j))) (hb : ∀ j, j < n → w.cell? (b.add j) = some (.int .u8 (B j))) :
    Calls Try.prog 21 #[.slice (some a) n ca, .slice (some b) n cb] w fun e w' => (e = .returned (.bool true) ∧ (∀ j, j < n → A j = B j) ∨ e = .returned (.bool false) ∧ ∃ j, j < n ∧ A j ≠ B j) ∧ Below w.heap.size w w' := by
  have HA := Lib.hid ha
  have HB := Lib.hid hb
  clear ha hb
  unfold maxLen at hn2
  go_enter Try.func21, Try.ntmps21
  go_wp2_with fail
  go_loopw [5] (fun i wr => ∃ k : Nat, k ≤ n ∧ i = .int .i64 (k : Int) ∧ (∀ j, j < k → A j = B j) ∧ Below w.heap.size w wr)
    (fun i _ => n - (intOf i).toNat)
  case atStart => exact ⟨0, Nat.zero_le _, rfl, fun _ h => absurd h (by omega), Below.refl _ _⟩
  case round =>
    obtain ⟨k, hk, rfl, hsame, hB⟩ := hrel
    have HS := Lib.hid hsame
    clear hsame
    by_cases hlt : k < n
    · have ca := (hB.cell (World.block_lt_of_cell? _ _ (HA.out k hlt))).trans (HA.out k hlt)
      have cb := (hB.cell (World.block_lt_of_cell? _ _ (HB.out k hlt))).trans (HB.out k hlt)
      obtain ⟨x, hx⟩ : ∃ x, x = A k := ⟨_, rfl⟩
      obtain ⟨y, hy⟩ : ∃ y, y = B k := ⟨_, rfl⟩
      rw [← hx] at ca
      rw [← hy] at cb
      by_cases he : x = y
      · have h1 : (x == y) = true := by simp [he]
        have HX := Lib.hid hx; have HY := Lib.hid hy; have HE := Lib.hid he
        clear hx hy he
        have h2 : decide (x = y) = true := by simpa using h1
        have h3 : (x != y) = false := by simpa using h1
        go_wp2_with fail
        go_region
        go_wp2_with fail
        go_roundw
        case rel =>
          refine ⟨k + 1, by omega, by go_num, fun j hj => ?_, hB.drew⟩
          rcases Nat.lt_or_ge j k with h | h
          · exact HS.out j h
          · obtain rfl : j = k := by omega
            rw [← HX.out, ← HY.out, HE.out]
        case measure => simp [intOf]; omega
      · have h1 : (x == y) = false := by simpa using he
        have h2 : decide (x = y) = false := by simpa using he
        have h3 : (x != y) = true := by simpa using he
        have HX := Lib.hid hx; have HY := Lib.hid hy; have HE := Lib.hid he
        clear hx hy he
        go_wp2_with fail
        go_region
        go_wp2_with fail
        go_ret
        exact ⟨.inr ⟨rfl, k, hlt, by rw [← HX.out, ← HY.out]; exact HE.out⟩, hB.drew⟩
    · obtain rfl : k = n := by omega
      go_wp2_with fail
      go_ret
      exact ⟨.inl ⟨rfl, HS.out⟩, hB⟩

theorem list_eq_nth {A B : List Int} (hl : A.length = B.length) (h : ∀ j, j < A.length → nth A j = nth B j) : A = B := by
  apply List.ext_getElem hl
  intro j h1 h2
  have := h j h1
  simpa [nth, List.getD_eq_getElem?_getD, h1, h2] using this

theorem Same_any (va vb : Value) (A B : List Int) (w : World) (ha : Reads w va A) (hb : Reads w vb B) (la : A.length ≤ maxLen) (lb : B.length ≤ maxLen) :
    Calls Try.prog 21 #[va, vb] w fun e w' => e = .returned (.bool (decide (A = B))) ∧ Below w.heap.size w w' := by
  obtain ⟨oa, ca, rfl, ha⟩ := ha
  obtain ⟨ob, cb, rfl, hb⟩ := hb
  by_cases hl : A.length = B.length
  · rcases Nat.eq_zero_or_pos A.length with h0 | h0
    · have : A = B := (List.eq_nil_of_length_eq_zero h0).trans (List.eq_nil_of_length_eq_zero (hl ▸ h0)).symm
      rw [h0, ← hl, h0]
      refine (Same_zero oa ob ca cb w).mono ?_
      rintro e w' ⟨rfl, hb⟩
      exact ⟨by rw [decide_eq_true this], hb⟩
    · obtain ⟨a, rfl, _⟩ := ha 0 h0
      obtain ⟨b, rfl, _⟩ := hb 0 (hl ▸ h0)
      rw [← hl]
      refine (Same_some a b A.length ca cb (nth A) (nth B) w h0 la (fun j hj => ?_) (fun j hj => ?_)).mono ?_
      · obtain ⟨_, e, h⟩ := ha j hj; cases e; exact h
      · obtain ⟨_, e, h⟩ := hb j (hl ▸ hj); cases e; exact h
      · rintro e w' ⟨⟨rfl, h⟩ | ⟨rfl, j, hj, h⟩, hbel⟩
        · exact ⟨by rw [decide_eq_true (list_eq_nth hl h)], hbel⟩
        · exact ⟨by rw [decide_eq_false (fun e => h (by rw [e]))], hbel⟩
  · refine (Same_len oa ob _ _ ca cb w hl la lb).mono ?_
    rintro e w' ⟨rfl, hb⟩
    exact ⟨by rw [decide_eq_false (fun e => hl (by rw [e]))], hb⟩

theorem Reads.of_owns {w : World} {base : Nat} {v : Value} {L : List Int} (h : w.ownsRow base 5 1 v (by8 L).length (by8 L)) : Reads w v L := by
  rw [by8_len] at h
  rcases ownsRow_forms h with ⟨rfl, h0⟩ | ⟨g, cap, rfl⟩
  · exact ⟨none, 0, by rw [h0], fun j hj => absurd hj (by omega)⟩
  · refine ⟨some ⟨g, 0, none⟩, cap, rfl, fun j hj => ⟨_, rfl, h.cells (g := g) rfl j _ ?_⟩⟩
    simp [by8, nth, List.getD_eq_getElem?_getD, hj]
theorem Reads.below {w w' : World} {v : Value} {L : List Int} (h : Reads w v L) (hb : Below w.heap.size w w') : Reads w' v L := by
  obtain ⟨oa, cap, rfl, h⟩ := h
  refine ⟨oa, cap, rfl, fun j hj => ?_⟩
  obtain ⟨a, rfl, hc⟩ := h j hj
  exact ⟨a, rfl, (hb.cell (World.block_lt_of_cell? _ _ hc)).trans hc⟩
set_option maxHeartbeats 4000000 in
theorem Double_ok {N B M : Nat} {nodes most : Int} {f : Lit → Option Value} {n : Nat} {w : World} (h : Net N B M nodes most f n w) (hn : n < maxLen) {a b : Int} {kl : Lit} (hkey : keyOf Try.prog 92 (wv a b) = some kl)
    (h0 : 0 ≤ a) (h1 : a < nodes) (h2 : 0 ≤ b) (h3 : b < nodes) (hab : a ≠ b) {us : List Value}
    (hrow : w.ownsRow N 34 1 ((f kl).getD (.slice none 0 0)) us.length us) (hlt : (us.length : Int) < most) (hm : most ≤ 64) {i : Nat} {ou : Option Addr} {lu cu : Nat} (hi : us[i]? = some (.slice ou lu cu))
    {bs : List Value} (hs : Src w (.slice ou lu cu) bs) (hlen : bs.length ≤ 70000) (h1c : ∀ u ∈ bs, u.oneCell' = true) :
    Calls Try.prog 29 #[.pointer (some ⟨B, 0, none⟩), .int .i64 a, .int .i64 b, .int .i64 i] w (LayPost N B M nodes most f n kl us bs w) := by
  have hilt : i < us.length := (List.getElem?_eq_some_iff.1 hi).1
  have H := Lib.hid h; have HR := Lib.hid hrow; have H3 := Lib.hid h3; have H1 := Lib.hid h1; have HN := Lib.hid hn; have HA := Lib.hid hab; have HI := Lib.hid hilt; have HU := Lib.hid hi; have HL := Lib.hid hlt; have HS := Lib.hid hs
  clear h hrow h3 h1 hn hab hilt hi hlt hs
  go_enter Try.func29, Try.ntmps29
  go_wp2_with fail
  have A0 := (Below.refl _ w).alloc (Nat.le_refl _) (Obj.cells #[.int .i64 a, .int .i64 b] 92)
  refine (named_ok (H.out.below A0) hkey h0 H1.out h2 H3.out HA.out (row_below HR.out A0) (i := (i : Int)) (by omega) (by have := HI.out; omega)).mono ?_
  rintro e w1 ⟨rfl, hb⟩
  have hw := Below.step hb
  have n1 := H.out.below hw
  have hT := Below.newObj hb
  obtain ⟨kc0, kc1⟩ := keycell hT
  have hl := rows_look (w := w1.drew) n1.drew.map hkey
  have row1 := row_below HR.out hw
  obtain ⟨v, hv⟩ : ∃ v, v = (f kl).getD (.slice none 0 0) := ⟨_, rfl⟩
  have HV := Lib.hid hv
  have row1' := row1
  rw [← hv] at hl row1
  unfold wv at hl
  obtain ⟨m, hm'⟩ : ∃ m, m = us.length := ⟨_, rfl⟩
  have hilt := HI.out
  rw [← hm'] at row1 hilt
  obtain ⟨g, cap, rfl⟩ : ∃ g cap, v = .slice (some ⟨g, 0, none⟩) m cap := by
    rcases ownsRow_forms row1 with ⟨h, h0⟩ | ⟨g, cp, h⟩
    · omega
    · exact ⟨g, cp, h⟩
  have cg : w1.cell? ⟨g, i, none⟩ = some (.slice ou lu cu) := by rw [row1.cellAt i (by omega)]; exact HU.out
  have c2 := n1.c2
  obtain ⟨es, cl, hmm⟩ := rows_isMap n1.map
  have hcall := lay_ok n1.drew HN.out hkey row1'.drew HL.out hm (sv := .slice ou lu cu) (bs := bs) (by exact HS.out.below hw.drew) hlen h1c
  have HC := Lib.hid hcall
  have HW := Lib.hid hw
  have db : decide ((i : Int) < 0) = false := decide_eq_false (by omega)
  have db2 : decide ((i : Int) < (m : Int)) = true := decide_eq_true (by omega)
  clear hv hb hw n1 hcall row1 row1' hmm hm' hT
  go_wp2_with fail
  go_region_with (go_at_call 49; refine HC.out.mono ?_; intro e w2 hp; obtain ⟨rfl, hq⟩ := id hp; have HP := Lib.hid hp; clear hp hq)
  all_goals
    go_wp2_with fail
    go_ret
    exact LayPost.from HW.out.drew HP.out
end Go.Proofs.Ytklkhlipecphkaa
