/- Walks: the law DataBatches. -/
import Derived.Test.YtcojiienmmmihaaDi
namespace Go.Proofs.Ytcojiienmmmihaa
open Go.RowKit Go.Joins Go.Shelf
set_option maxRecDepth 100000
set_option linter.unusedVariables false

theorem ask_cells {s : Nat} {a b c d : Int} {w wr : World} {T : TypeId} (hb : Below (w.heap.size + 1) (w.alloc (Obj.cells #[.int .u64 (s : Int), .int .i64 a, .int .i64 b, .int .i64 c, .int .i64 d] T)) wr) :
    wr.cell? ⟨w.heap.size, 0, none⟩ = some (.int .u64 (s : Int)) ∧ wr.cell? ⟨w.heap.size, 1, none⟩ = some (.int .i64 a) ∧ wr.cell? ⟨w.heap.size, 2, none⟩ = some (.int .i64 b) ∧ wr.cell? ⟨w.heap.size, 3, none⟩ = some (.int .i64 c) ∧ wr.cell? ⟨w.heap.size, 4, none⟩ = some (.int .i64 d) := by
  have e := fun o => hb.cell (p := ⟨w.heap.size, o, none⟩) (by show w.heap.size < w.heap.size + 1; omega)
  refine ⟨?_, ?_, ?_, ?_, ?_⟩ <;> (rw [e]; simp [go_sem])

set_option maxHeartbeats 2000000 in
theorem DataBatches_long (s : Nat) (a b c d : Int) (oa : Option Addr) (len cap : Nat) (w : World) (h : 300 < len) (hl : len ≤ maxLen) : Calls Try.prog 11 #[.agg #[.int .u64 (s : Int), .int .i64 a, .int .i64 b, .int .i64 c, .int .i64 d], .slice oa len cap] w (Yes w) := by
  have d1 : decide ((300 : Int) < (len : Int)) = true := decide_eq_true (by omega)
  go_enter Try.func11, Try.ntmps11
  go_wp2_with fail
  refine (awake6_any _).mono ?_
  rintro e w1 ⟨rfl, hb1⟩
  have hB1 : Below (w.heap.size + 1) (w.alloc (Obj.cells #[.int .u64 (s : Int), .int .i64 a, .int .i64 b, .int .i64 c, .int .i64 d] 58)) w1 := hb1.mono (by simp)
  clear hb1
  go_wp2_with fail
  go_ret
  exact ⟨rfl, ((Below.refl _ _).alloc (Nat.le_refl _) _).trans (hB1.mono (by omega))⟩

theorem asked_iff (a b c d n : Int) : (0 ≤ a ∧ a < 64 ∧ 0 ≤ b ∧ b ≤ 256 ∧ 0 ≤ c ∧ c < 64 ∧ 1 ≤ d ∧ d ≤ 64 ∧ 1 ≤ n ∧ n ≤ 4096) ↔ ((0 ≤ a ∧ a ≤ 63) ∧ (0 ≤ b ∧ b ≤ 256) ∧ (0 ≤ c ∧ c ≤ 63) ∧ (1 ≤ d ∧ d ≤ 64) ∧ (1 ≤ n ∧ n ≤ 4096)) := by omega

set_option maxHeartbeats 4000000 in
theorem DataBatches_nil (s : Nat) (a b c d : Int) (w : World) : Calls Try.prog 11 #[.agg #[.int .u64 (s : Int), .int .i64 a, .int .i64 b, .int .i64 c, .int .i64 d], .slice none 0 0] w (Yes w) := by
  have HD := Lib.hid (decide_eq_false (show ¬ (0 ≤ a ∧ a < 64 ∧ 0 ≤ b ∧ b ≤ 256 ∧ 0 ≤ c ∧ c < 64 ∧ 1 ≤ d ∧ d ≤ 64 ∧ 1 ≤ (0 : Int) ∧ (0 : Int) ≤ 4096) by omega))
  go_enter Try.func11, Try.ntmps11
  go_wp2_with fail
  refine (awake6_any _).mono ?_
  rintro e w1 ⟨rfl, hb1⟩
  have hB1 : Below (w.heap.size + 1) (w.alloc (Obj.cells #[.int .u64 (s : Int), .int .i64 a, .int .i64 b, .int .i64 c, .int .i64 d] 58)) w1 := hb1.mono (by simp)
  have hs1 := Below.le hB1 (by simp)
  clear hb1
  have hBa := hB1.alloc (show w.heap.size + 1 ≤ w1.heap.size by omega) (Obj.cells #[] 3)
  obtain ⟨k0, k1, k2, k3, k4⟩ := ask_cells hBa
  go_wp2_with fail
  refine (Batch_no s a b c d 0 (some ⟨w1.heap.size, 0, none⟩) 0 _ (by omega)).mono ?_
  rintro e w2 ⟨rfl, hb2⟩
  have hB2 : Below (w.heap.size + 1) (w.alloc (Obj.cells #[.int .u64 (s : Int), .int .i64 a, .int .i64 b, .int .i64 c, .int .i64 d] 58)) w2 := hBa.trans (hb2.mono (by simp; omega))
  clear hBa hb2 k0 k1 k2 k3 k4
  obtain ⟨k0, k1, k2, k3, k4⟩ := ask_cells hB2
  go_wp2_with fail
  refine (Same_any _ _ [] [] _ ⟨_, _, rfl, fun j hj => absurd hj (by simp)⟩ ⟨_, _, rfl, fun j hj => absurd hj (by simp)⟩ (by simp) (by simp)).mono ?_
  rintro e w3 ⟨rfl, hb3⟩
  have hB3 : Below (w.heap.size + 1) (w.alloc (Obj.cells #[.int .u64 (s : Int), .int .i64 a, .int .i64 b, .int .i64 c, .int .i64 d] 58)) w3 := hB2.trans (hb3.mono (by have := Below.le hB2 (by simp); omega))
  rw [decide_eq_true (rfl : ([] : List Int) = [])]
  clear hB2 hb3 k0 k1 k2 k3 k4
  obtain ⟨k0, k1, k2, k3, k4⟩ := ask_cells hB3
  go_wp2_with fail
  refine (Asked_any _ _ _ _ _ _).mono ?_
  rintro e w4 ⟨rfl, rfl⟩
  rw [HD.out]
  go_wp2_with fail
  go_ret
  exact ⟨rfl, ((Below.refl _ _).alloc (Nat.le_refl _) _).trans (hB3.mono (by omega))⟩

theorem copied {N len : Nat} {A w1 w5 : World} {v5 : Value} {L : List Int} (hown5 : w5.ownsRow w1.heap.size 3 1 v5 (0 + len) ([] ++ L.map (Value.int .i64)))
    (hgrow5 : (w1.alloc (Obj.cells #[] 3)).grownBy w5 (some w1.heap.size)) (hB1 : Below N A w1) (hs1 : N ≤ w1.heap.size) (hL : L.length = len) :
    ∃ oa cp, v5 = .slice oa len cp ∧ Reads w5 v5 L ∧ Below N A w5 ∧ (1 ≤ len → ∃ g, oa = some ⟨g, 0, none⟩ ∧ ∀ j, j < len → w5.cell? ⟨g, j, none⟩ = some (.int .i64 (nth L j))) := by
  have hB5 : Below N A w5 := (hB1.alloc hs1 _).grown hgrow5 (by simp; omega) (fun q hq => by cases hq; exact hs1)
  have hrd5 : Reads w5 v5 L := by
    refine Reads.of_owns (base := w1.heap.size) ?_
    rw [hL]
    simpa using hown5
  obtain ⟨oa, cp, rfl, hc⟩ := id hrd5
  rw [hL] at hrd5
  refine ⟨oa, cp, by rw [hL], ?_, hB5, fun h1 => ?_⟩
  · rw [hL]; exact hrd5
  · rw [Nat.zero_add] at hown5
    rcases ownsRow_forms hown5 with ⟨_, h0⟩ | ⟨g, cap, hv⟩
    · omega
    · cases hv
      refine ⟨g, rfl, fun j hj => ?_⟩
      obtain ⟨a, e, h⟩ := hc j (by omega)
      cases e
      by_cases hj0 : j = 0
      · subst hj0; simpa [Addr.add] using h
      · simpa [Addr.add, hj0] using h

set_option maxHeartbeats 4000000 in
theorem DataBatches_no (s : Nat) (a b c d : Int) (ad : Addr) (len cap : Nat) (L : List Int) (w : World) (hl : len ≤ 300) (hL : L.length = len) (hc : ∀ j, j < len → w.cell? (ad.add j) = some (.int .i64 (nth L j)))
    (hn : ¬ ((0 ≤ a ∧ a ≤ 63) ∧ (0 ≤ b ∧ b ≤ 256) ∧ (0 ≤ c ∧ c ≤ 63) ∧ (1 ≤ d ∧ d ≤ 64) ∧ (1 ≤ (len : Int) ∧ (len : Int) ≤ 4096))) : Calls Try.prog 11 #[.agg #[.int .u64 (s : Int), .int .i64 a, .int .i64 b, .int .i64 c, .int .i64 d], .slice (some ad) len cap] w (Yes w) := by
  obtain ⟨i0, hi, hz0, hz1, hz2⟩ := info_parts Try.info3
  have HZ0 := Lib.hid hz0; have HZ1 := Lib.hid hz1; have HZ2 := Lib.hid hz2; have HI := Lib.hid hi
  clear hz0 hz1 hz2 hi
  have HN := Lib.hid hn
  have HD := Lib.hid (decide_eq_false (fun h => hn ((asked_iff a b c d (len : Int)).1 h)))
  have HC := Lib.hid hc
  have d1 : decide ((300 : Int) < (len : Int)) = false := decide_eq_false (by omega)
  clear hn hc
  go_enter Try.func11, Try.ntmps11
  go_wp2_with fail
  refine (awake6_any _).mono ?_
  rintro e w1 ⟨rfl, hb1⟩
  have hB1 : Below (w.heap.size + 1) (w.alloc (Obj.cells #[.int .u64 (s : Int), .int .i64 a, .int .i64 b, .int .i64 c, .int .i64 d] 58)) w1 := hb1.mono (by simp)
  have hs1 := Below.le hB1 (by simp)
  clear hb1
  have hBw1 : Below w.heap.size w w1 := ((Below.refl _ _).alloc (Nat.le_refl _) _).trans (hB1.mono (by omega))
  have hBa := hBw1.alloc (show w.heap.size ≤ w1.heap.size by omega) (Obj.cells #[] 3)
  have hcc : ∀ j u, (L.map (Value.int .i64))[j]? = some u → (w1.alloc (Obj.cells #[] 3)).cell? (ad.add j) = some u := fun j u hu => by
    obtain ⟨x, hx, rfl⟩ := List.getElem?_map .. ▸ hu |> Option.map_eq_some_iff.1
    have hj : j < len := by rw [← hL]; exact (List.getElem?_eq_some_iff.1 hx).1
    rw [(hBa.cell (World.block_lt_of_cell? _ _ (HC.out j hj))).trans (HC.out j hj)]
    simp [nth, List.getD_eq_getElem?_getD, hx]
  have HCC := Lib.hid hcc
  clear hcc
  have HBA := Lib.hid hBa
  have HB1 := Lib.hid hB1
  clear hBa hB1 hBw1
  go_wp2_with (at_builtin; refine wpList_append_own _ rfl (.tmp 13) (.tmp 14) 34 rfl w1.heap.size 3 i0 (.int .i64 0) 1 8 Try.underlying34 HI.out HZ0.out HZ1.out HZ2.out rfl (by decide) _ 0 [] rfl (World.ownsRow_made w1 #[] 0 (Nat.le_refl _) (by unfold maxLen; omega) rfl) ad len cap (L.map (Value.int .i64)) rfl (by simp [hL]) HCC.out (by intro u hu; obtain ⟨x, _, rfl⟩ := List.mem_map.1 hu; rfl) (by unfold maxLen; omega) (by omega) (by simp) ?_; intro v5 w5 hown5 hgrow5 hnil5; clear hnil5; obtain ⟨oa5, cp5, rfl, hrd5, hB5, hg5⟩ := copied hown5 hgrow5 HB1.out hs1 hL; clear hown5 hgrow5; obtain ⟨k0, k1, k2, k3, k4⟩ := ask_cells hB5)
  have hs5 := Below.le hB5 (by simp)
  refine (Batch_no s a b c d len oa5 cp5 _ HN.out).mono ?_
  rintro e w2 ⟨rfl, hb2⟩
  have hB2 : Below (w.heap.size + 1) (w.alloc (Obj.cells #[.int .u64 (s : Int), .int .i64 a, .int .i64 b, .int .i64 c, .int .i64 d] 58)) w2 := hB5.trans (hb2.mono hs5)
  have hrd2 := hrd5.below hb2
  have hown : Reads w2 (.slice (some ad) len cap) L := ⟨some ad, cap, by rw [hL], fun j hj => ⟨ad, rfl, by
    have h0 := HC.out j (by omega)
    exact ((((Below.refl _ _).alloc (Nat.le_refl _) _).trans (hB2.mono (by omega))).cell (World.block_lt_of_cell? _ _ h0)).trans h0⟩⟩
  clear hg5 hb2 k0 k1 k2 k3 k4 hB5 hs5 hrd5
  obtain ⟨k0, k1, k2, k3, k4⟩ := ask_cells hB2
  have HR2 := Lib.hid hrd2
  have HOWN := Lib.hid hown
  clear hrd2 hown
  go_wp2_with fail
  refine (Same_any _ _ L L _ HR2.out HOWN.out (by unfold maxLen; omega) (by unfold maxLen; omega)).mono ?_
  rintro e w3 ⟨rfl, hb3⟩
  have hB3 : Below (w.heap.size + 1) (w.alloc (Obj.cells #[.int .u64 (s : Int), .int .i64 a, .int .i64 b, .int .i64 c, .int .i64 d] 58)) w3 := hB2.trans (hb3.mono (by have := Below.le hB2 (by simp); omega))
  rw [decide_eq_true (rfl : L = L)]
  clear hB2 hb3 k0 k1 k2 k3 k4
  obtain ⟨k0, k1, k2, k3, k4⟩ := ask_cells hB3
  go_wp2_with fail
  refine (Asked_any _ _ _ _ _ _).mono ?_
  rintro e w4 ⟨rfl, rfl⟩
  rw [HD.out]
  go_wp2_with fail
  go_ret
  exact ⟨rfl, ((Below.refl _ _).alloc (Nat.le_refl _) _).trans (hB3.mono (by omega))⟩

set_option maxHeartbeats 4000000 in
theorem DataBatches_yes (s a b c d : Nat) (ad : Addr) (len cap : Nat) (L : List Int) (w : World) (hl : len ≤ 300) (hL : L.length = len) (hc : ∀ j, j < len → w.cell? (ad.add j) = some (.int .i64 (nth L j)))
    (h1 : a ≤ 63) (h2 : b ≤ 256) (h3 : c ≤ 63) (h4 : 1 ≤ d) (h5 : d ≤ 64) (h6 : 1 ≤ len) : Calls Try.prog 11 #[.agg #[.int .u64 (s : Int), .int .i64 (a : Int), .int .i64 (b : Int), .int .i64 (c : Int), .int .i64 (d : Int)], .slice (some ad) len cap] w (Yes w) := by
  obtain ⟨i0, hi, hz0, hz1, hz2⟩ := info_parts Try.info3
  have HZ0 := Lib.hid hz0; have HZ1 := Lib.hid hz1; have HZ2 := Lib.hid hz2; have HI := Lib.hid hi
  clear hz0 hz1 hz2 hi
  have HD := Lib.hid (decide_eq_true ((asked_iff (a : Int) (b : Int) (c : Int) (d : Int) (len : Int)).2 (by omega)))
  have HC := Lib.hid hc
  have d1 : decide ((300 : Int) < (len : Int)) = false := decide_eq_false (by omega)
  clear hc
  go_enter Try.func11, Try.ntmps11
  go_wp2_with fail
  refine (awake6_any _).mono ?_
  rintro e w1 ⟨rfl, hb1⟩
  have hB1 : Below (w.heap.size + 1) (w.alloc (Obj.cells #[.int .u64 (s : Int), .int .i64 (a : Int), .int .i64 (b : Int), .int .i64 (c : Int), .int .i64 (d : Int)] 58)) w1 := hb1.mono (by simp)
  have hs1 := Below.le hB1 (by simp)
  clear hb1
  have hBw1 : Below w.heap.size w w1 := ((Below.refl _ _).alloc (Nat.le_refl _) _).trans (hB1.mono (by omega))
  have hBa := hBw1.alloc (show w.heap.size ≤ w1.heap.size by omega) (Obj.cells #[] 3)
  have hcc : ∀ j u, (L.map (Value.int .i64))[j]? = some u → (w1.alloc (Obj.cells #[] 3)).cell? (ad.add j) = some u := fun j u hu => by
    obtain ⟨x, hx, rfl⟩ := List.getElem?_map .. ▸ hu |> Option.map_eq_some_iff.1
    have hj : j < len := by rw [← hL]; exact (List.getElem?_eq_some_iff.1 hx).1
    rw [(hBa.cell (World.block_lt_of_cell? _ _ (HC.out j hj))).trans (HC.out j hj)]
    simp [nth, List.getD_eq_getElem?_getD, hx]
  have HCC := Lib.hid hcc
  clear hcc
  have HBA := Lib.hid hBa
  have HB1 := Lib.hid hB1
  clear hBa hB1 hBw1
  go_wp2_with (at_builtin; refine wpList_append_own _ rfl (.tmp 13) (.tmp 14) 34 rfl w1.heap.size 3 i0 (.int .i64 0) 1 8 Try.underlying34 HI.out HZ0.out HZ1.out HZ2.out rfl (by decide) _ 0 [] rfl (World.ownsRow_made w1 #[] 0 (Nat.le_refl _) (by unfold maxLen; omega) rfl) ad len cap (L.map (Value.int .i64)) rfl (by simp [hL]) HCC.out (by intro u hu; obtain ⟨x, _, rfl⟩ := List.mem_map.1 hu; rfl) (by unfold maxLen; omega) (by omega) (by simp) ?_; intro v5 w5 hown5 hgrow5 hnil5; clear hnil5; obtain ⟨oa5, cp5, rfl, hrd5, hB5, hg5⟩ := copied hown5 hgrow5 HB1.out hs1 hL; clear hown5 hgrow5; obtain ⟨k0, k1, k2, k3, k4⟩ := ask_cells hB5)
  have hs5 := Below.le hB5 (by simp)
  obtain ⟨g5, rfl, hq5⟩ := hg5 h6
  refine (Batch_yes s a b c d len g5 cp5 L _ h1 h2 h3 h4 h5 h6 (by omega) hq5).mono ?_
  rintro e w2 ⟨v2, rfl, hrow2, hb2⟩
  have hrl := Reads.of_owns hrow2
  have hB2 : Below (w.heap.size + 1) (w.alloc (Obj.cells #[.int .u64 (s : Int), .int .i64 (a : Int), .int .i64 (b : Int), .int .i64 (c : Int), .int .i64 (d : Int)] 58)) w2 := hB5.trans (hb2.mono hs5)
  have hrd2 := hrd5.below hb2
  have hown : Reads w2 (.slice (some ad) len cap) L := ⟨some ad, cap, by rw [hL], fun j hj => ⟨ad, rfl, by
    have h0 := HC.out j (by omega)
    exact ((((Below.refl _ _).alloc (Nat.le_refl _) _).trans (hB2.mono (by omega))).cell (World.block_lt_of_cell? _ _ h0)).trans h0⟩⟩
  clear hg5 hb2 k0 k1 k2 k3 k4 hB5 hs5 hrd5
  obtain ⟨k0, k1, k2, k3, k4⟩ := ask_cells hB2
  have HR2 := Lib.hid hrd2
  have HOWN := Lib.hid hown
  have hbl : (M.batch s a b c d len h6 L).length ≤ 64 := by simp [M.batch, turnsTo_length]; exact h5
  have HRB := Lib.hid (fun W hc => rBatch_yes s a b c d len cap ad L W h1 h2 h3 h4 h5 h6 (by omega) hc)
  obtain ⟨R, hR⟩ : ∃ R, R = M.batch s a b c d len h6 L := ⟨_, rfl⟩
  rw [← hR] at hrl HRB hbl
  clear hR hrow2
  have HRL := Lib.hid hrl
  clear hrd2 hown hrl
  go_wp2_with fail
  refine (Same_any _ _ L L _ HR2.out HOWN.out (by unfold maxLen; omega) (by unfold maxLen; omega)).mono ?_
  rintro e w3 ⟨rfl, hb3⟩
  have hB3 : Below (w.heap.size + 1) (w.alloc (Obj.cells #[.int .u64 (s : Int), .int .i64 (a : Int), .int .i64 (b : Int), .int .i64 (c : Int), .int .i64 (d : Int)] 58)) w3 := hB2.trans (hb3.mono (by have := Below.le hB2 (by simp); omega))
  rw [decide_eq_true (rfl : L = L)]
  have hb3' := hb3
  clear hB2 hb3 k0 k1 k2 k3 k4
  obtain ⟨k0, k1, k2, k3, k4⟩ := ask_cells hB3
  go_wp2_with fail
  refine (Asked_any _ _ _ _ _ _).mono ?_
  rintro e w4 ⟨rfl, rfl⟩
  rw [HD.out]
  go_wp2_with fail
  have hs3 := Below.le hB3 (by simp)
  refine (HRB.out _ (fun j hj => by
    have h0 := HC.out j hj
    exact ((((Below.refl _ _).alloc (Nat.le_refl _) _).trans (hB3.mono (by omega))).cell (World.block_lt_of_cell? _ _ h0)).trans h0)).mono ?_
  rintro e w5 ⟨v5, rfl, hr5, hb5⟩
  have hrl5 := (HRL.out.below hb3').below hb5
  have hB5 : Below (w.heap.size + 1) (w.alloc (Obj.cells #[.int .u64 (s : Int), .int .i64 (a : Int), .int .i64 (b : Int), .int .i64 (c : Int), .int .i64 (d : Int)] 58)) w5 := hB3.trans (hb5.mono hs3)
  have hs5 := Below.le hB5 (by simp)
  have HR5 := Lib.hid hr5
  have HRL5 := Lib.hid hrl5
  clear hr5 hrl5 hb5 hb3' k0 k1 k2 k3 k4
  go_wp2_with fail
  refine (Same_any _ _ R R _ HRL5.out HR5.out (by unfold maxLen; omega) (by unfold maxLen; omega)).mono ?_
  rintro e w6 ⟨rfl, hb6⟩
  rw [decide_eq_true (rfl : R = R)]
  go_wp2_with fail
  go_ret
  exact ⟨rfl, ((Below.refl _ _).alloc (Nat.le_refl _) _).trans ((hB5.trans (hb6.mono hs5)).mono (by omega))⟩

/-- What a slice of numbers that came in is. -/
def IsRow (w : World) (a : Option Addr) (len cap : Nat) (zs : List Int) : Prop :=
  (a = none ∧ len = 0 ∧ cap = 0 ∧ zs = []) ∨
  ∃ x, a = some x ∧ len ≤ cap ∧ cap ≤ maxLen ∧ zs.length = cap ∧ (∀ i, i < zs.length → w.cell? (x.add i) = some (.int .i64 (zs.getD i 0)))

theorem DataBatches_row (s a b c d : Int) (oa : Option Addr) (len cap : Nat) (zs : List Int) (w : World) (hs : (Lit.int .u64 s).wf = true) (ha : (Lit.int .i64 a).wf = true) (hb : (Lit.int .i64 b).wf = true) (hc : (Lit.int .i64 c).wf = true) (hd : (Lit.int .i64 d).wf = true) (hr : IsRow w oa len cap zs) :
    Calls Try.prog 11 #[.agg #[.int .u64 s, .int .i64 a, .int .i64 b, .int .i64 c, .int .i64 d], .slice oa len cap] w fun e w' => e = .returned (.bool true) ∧ Below w.heap.size w w' := by
  obtain ⟨q, rfl, _⟩ := nat_of_u64 hs
  rcases hr with ⟨rfl, rfl, rfl, rfl⟩ | ⟨x, rfl, hlc, hcm, hzl, hcell⟩
  · exact DataBatches_nil q a b c d w
  · by_cases h300 : 300 < len
    · exact DataBatches_long q a b c d _ len cap w h300 (by omega)
    have hcl : ∀ j, j < len → w.cell? (x.add j) = some (.int .i64 (nth (zs.take len) j)) := fun j hj => by
      rw [hcell j (by omega)]
      simp [nth, List.getD_eq_getElem?_getD, hj]
    have hLl : (zs.take len).length = len := by rw [List.length_take]; omega
    by_cases hn : ((0 ≤ a ∧ a ≤ 63) ∧ (0 ≤ b ∧ b ≤ 256) ∧ (0 ≤ c ∧ c ≤ 63) ∧ (1 ≤ d ∧ d ≤ 64) ∧ (1 ≤ (len : Int) ∧ (len : Int) ≤ 4096))
    · obtain ⟨a', rfl⟩ : ∃ m : Nat, a = m := ⟨a.toNat, by omega⟩
      obtain ⟨b', rfl⟩ : ∃ m : Nat, b = m := ⟨b.toNat, by omega⟩
      obtain ⟨c', rfl⟩ : ∃ m : Nat, c = m := ⟨c.toNat, by omega⟩
      obtain ⟨d', rfl⟩ : ∃ m : Nat, d = m := ⟨d.toNat, by omega⟩
      exact DataBatches_yes q a' b' c' d' x len cap (zs.take len) w (by omega) hLl hcl (by omega) (by omega) (by omega) (by omega) (by omega) (by omega)
    · exact DataBatches_no q a b c d x len cap (zs.take len) w (by omega) hLl hcl hn
end Go.Proofs.Ytcojiienmmmihaa
