/- Walks: small functions of data: begin, within, shards, Right. -/
import Derived.Test.YtcojiienmmmihaaG
namespace Go.Proofs.Ytcojiienmmmihaa
open Go.RowKit Go.Joins
set_option maxRecDepth 100000
set_option linter.unusedVariables false

def spanOk (t : Int × Int × Int) : Bool := decide (t.2.1 ≤ t.1) && decide (t.1 ≤ t.2.2)

theorem within_any (L : List (Int × Int × Int)) (g cap : Nat) (w : World) (hl : L.length ≤ 100)
    (hc : ∀ j t, L[j]? = some t → w.cell? ⟨g, j * 3, none⟩ = some (.int .i64 t.1) ∧ w.cell? ⟨g, j * 3 + 1, none⟩ = some (.int .i64 t.2.1) ∧ w.cell? ⟨g, j * 3 + 2, none⟩ = some (.int .i64 t.2.2)) :
    Calls Try.prog 53 #[.slice (some ⟨g, 0, none⟩) L.length cap] w fun e w' => e = .returned (.bool (L.all spanOk)) ∧ Below w.heap.size w w' := by
  have HC := Lib.hid hc
  clear hc
  go_enter Try.func53, Try.ntmps53
  go_wp2_with fail
  go_loopw [4, 7] (fun _ i wr => ∃ k : Nat, k ≤ L.length ∧ i = .int .i64 (k : Int) ∧ (∀ j, j < k → ∀ t, L[j]? = some t → spanOk t = true) ∧ Below w.heap.size w wr)
    (fun _ i _ => L.length - (intOf i).toNat)
  case atStart => exact ⟨0, Nat.zero_le _, rfl, fun j hj => by omega, Below.refl _ _⟩
  have hbad : ∀ {k : Nat} {t : Int × Int × Int}, L[k]? = some t → spanOk t = false → L.all spanOk = false := by
    intro k t h1 h2
    rw [List.all_eq_false]
    exact ⟨t, List.mem_of_getElem? h1, by simp [h2]⟩
  case round =>
    obtain ⟨k, hk, rfl, hall, hB⟩ := hrel
    have HALL := Lib.hid hall
    clear hall
    by_cases hlt : k < L.length
    · obtain ⟨t, ht⟩ : ∃ t, L[k]? = some t := ⟨L[k], List.getElem?_eq_getElem hlt⟩
      obtain ⟨x, lo, hi⟩ := t
      obtain ⟨c1, c2, c3⟩ := HC.out k _ ht
      have q : ∀ {p : Addr} {u : Value}, w.cell? p = some u → wr.cell? p = some u := fun {p u} hp => (hB.cell (World.block_lt_of_cell? w p hp)).trans hp
      have d1 := q c1
      have d2 := q c2
      have d3 := q c3
      have HT := Lib.hid ht
      clear ht q c1 c2 c3
      by_cases h1 : x < lo
      · have e1 : decide (x < lo) = true := decide_eq_true h1
        go_wp2_with fail
        go_ret
        rw [hbad HT.out (by simp [spanOk]; omega)]
        exact ⟨rfl, hB.alloc hB.size _⟩
      · have e1 : decide (x < lo) = false := decide_eq_false h1
        by_cases h2 : hi < x
        · have e2 : decide (hi < x) = true := decide_eq_true h2
          go_wp2_with fail
          go_ret
          rw [hbad HT.out (by simp [spanOk]; omega)]
          exact ⟨rfl, hB.alloc hB.size _⟩
        · have e2 : decide (hi < x) = false := decide_eq_false h2
          go_wp2_with fail
          refine ⟨⟨k + 1, by omega, by go_num, ?_, hB.alloc hB.size _⟩, by simp [intOf]; omega⟩
          intro j hj t ht
          by_cases e : j = k
          · subst e
            rw [HT.out] at ht
            cases ht
            simp [spanOk]; omega
          · exact HALL.out j (by omega) t ht
    · obtain rfl : k = L.length := by omega
      have HA := Lib.hid (show L.all spanOk = true by
        rw [List.all_eq_true]
        intro t ht
        obtain ⟨j, hj⟩ := List.getElem?_of_mem ht
        have hjl : j < L.length := by
          rcases Nat.lt_or_ge j L.length with h | h
          · exact h
          · rw [List.getElem?_eq_none h] at hj; cases hj
        exact HALL.out j hjl t hj)
      go_wp2_with fail
      go_ret
      rw [HA.out]
      exact ⟨rfl, hB⟩

theorem begin_any (workers worker n : Nat) (w : World) (h0 : 1 ≤ workers) (h1 : workers ≤ 64) (h2 : worker ≤ 64) (h3 : n ≤ 4096) :
    Calls Try.prog 54 #[.int .i64 (workers : Int), .int .i64 (worker : Int), .int .i64 (n : Int)] w fun e w' => e = .returned (.int .i64 ((worker * n / workers : Nat) : Int)) ∧ w' = w := by
  obtain ⟨p, hp⟩ : ∃ p, p = worker * n := ⟨_, rfl⟩
  have hp2 : p ≤ 64 * 4096 := by rw [hp]; exact Nat.mul_le_mul h2 h3
  have hm : (worker : Int) * (n : Int) = (p : Int) := by rw [hp]; exact (Int.natCast_mul worker n).symm
  have hd : ((p : Int) / (workers : Int)) = ((p / workers : Nat) : Int) := (Int.natCast_ediv p workers).symm
  have hdl : p / workers ≤ p := Nat.div_le_self _ _
  rw [← hp]
  clear hp
  obtain ⟨q, hq⟩ : ∃ q, q = p / workers := ⟨_, rfl⟩
  rw [← hq] at hd hdl ⊢
  clear hq
  go_enter Try.func54, Try.ntmps54
  go_wp2_with fail
  go_ret
  exact ⟨rfl, rfl⟩

theorem within2 (a b c a' b' c' : Int) (w : World) :
    Calls Try.prog 53 #[.slice (some ⟨w.heap.size, 0, none⟩) 2 2] (w.alloc (Obj.cells #[.int .i64 a, .int .i64 b, .int .i64 c, .int .i64 a', .int .i64 b', .int .i64 c'] 87)) fun e w' => e = .returned (.bool (decide (b ≤ a ∧ a ≤ c ∧ b' ≤ a' ∧ a' ≤ c'))) ∧ Below w.heap.size w w' := by
  refine (within_any [(a, b, c), (a', b', c')] _ 2 _ (by simp) ?_).mono ?_
  · intro j t ht
    match j, ht with
    | 0, ht => cases ht; simp [go_sem]
    | 1, ht => cases ht; simp [go_sem]
    | j + 2, ht => simp at ht
  · rintro e w' ⟨rfl, hb⟩
    refine ⟨?_, ((Below.refl _ _).alloc (Nat.le_refl _) _).trans (hb.mono (by simp))⟩
    congr 2
    simp [spanOk, Bool.and_assoc]
theorem within1 (a b c : Int) (w : World) :
    Calls Try.prog 53 #[.slice (some ⟨w.heap.size, 0, none⟩) 1 1] (w.alloc (Obj.cells #[.int .i64 a, .int .i64 b, .int .i64 c] 87)) fun e w' => e = .returned (.bool (decide (b ≤ a ∧ a ≤ c))) ∧ Below w.heap.size w w' := by
  refine (within_any [(a, b, c)] _ 1 _ (by simp) ?_).mono ?_
  · intro j t ht
    match j, ht with
    | 0, ht => cases ht; simp [go_sem]
    | j + 1, ht => simp at ht
  · rintro e w' ⟨rfl, hb⟩
    refine ⟨?_, ((Below.refl _ _).alloc (Nat.le_refl _) _).trans (hb.mono (by simp))⟩
    congr 2
    simp [spanOk]

theorem shards_any (workers n : Int) (w : World) (hw : -9223372036854775808 ≤ workers ∧ workers ≤ 9223372036854775807) (hn : -9223372036854775808 ≤ n ∧ n ≤ 9223372036854775807) :
    Calls Try.prog 52 #[.int .i64 workers, .int .i64 n] w fun e w' => e = .returned (.bool (decide (1 ≤ workers ∧ workers ≤ 64 ∧ workers ≤ n ∧ n ≤ 4096))) ∧ Below w.heap.size w w' := by
  go_enter Try.func52, Try.ntmps52
  go_wp2_with fail
  all_goals
    refine (within2 _ _ _ _ _ _ _).mono ?_
    rintro e w1 ⟨rfl, hb⟩
    have hb' := Lib.hid hb
    clear hb
    go_wp2_with fail
    go_ret
    refine ⟨?_, hb'.out⟩
    refine congrArg (fun b => Ending.returned (Value.bool b)) (Bool.eq_iff_iff.2 ?_)
    simp only [Bool.and_eq_true, decide_eq_true_eq]
    omega

end Go.Proofs.Ytcojiienmmmihaa
