/- Walks: the law DataShards. -/
import Derived.Test.YtcojiienmmmihaaDh
import Derived.Test.YtcojiienmmmihaaK
namespace Go.Proofs.Ytcojiienmmmihaa
open Go.RowKit Go.Joins Go.Shelf
set_option maxRecDepth 100000
set_option linter.unusedVariables false

/-- Which examples stand ahead of a place. -/
noncomputable def M.seen (s n p : Nat) : List Bool := (List.range n).map fun i => decide (M.plc s 1 0 0 n i < p)
theorem M.seen_length (s n p : Nat) : (M.seen s n p).length = n := by simp [M.seen]
theorem M.seen_zero (s n : Nat) : M.seen s n 0 = List.replicate n false := by
  rw [List.eq_replicate_iff]
  refine ⟨M.seen_length _ _ _, fun b hb => ?_⟩
  simp [M.seen] at hb
  exact hb.2
theorem M.seen_new {s n p : Nat} (h1 : n ≤ 65536) (hp : p < n) : (M.seen s n p)[M.bck s 1 0 0 n p]? = some false := by
  have h2 := M.bck_lt s 1 0 0 h1 hp
  have h3 := M.plc_bck s 1 0 0 h1 hp
  simp [M.seen, h2, h3]
theorem M.seen_step {s n p : Nat} (h1 : n ≤ 65536) (hp : p < n) : (M.seen s n p).set (M.bck s 1 0 0 n p) true = M.seen s n (p + 1) := by
  apply List.ext_getElem (by simp [M.seen_length])
  intro j hj hj2
  have hjn : j < n := by simpa [M.seen_length] using hj2
  have hbp := M.bck_plc s 1 0 0 h1 hjn
  have hpb := M.plc_bck s 1 0 0 h1 hp
  rw [List.getElem_set]
  by_cases e : M.bck s 1 0 0 n p = j
  · rw [if_pos e]
    have : M.plc s 1 0 0 n j = p := by rw [← e]; exact hpb
    simp [M.seen, this]
  · rw [if_neg e]
    have hne : M.plc s 1 0 0 n j ≠ p := fun e2 => e (by rw [← e2]; exact hbp)
    simp only [M.seen, List.getElem_map, List.getElem_range]
    exact decide_eq_decide.2 (by omega)
theorem M.seen_full {s n j : Nat} (h1 : n ≤ 65536) (hj : j < n) : (M.seen s n n)[j]? = some true := by
  have := M.plc_lt s 1 0 0 h1 hj
  simp [M.seen, hj, this]
theorem M.share_len {workers n k : Nat} (h : 1 ≤ workers) : n / workers ≤ M.beg workers n (k + 1) - M.beg workers n k ∧ M.beg workers n (k + 1) - M.beg workers n k ≤ n / workers + 1 := by
  unfold M.beg
  rw [Nat.succ_mul]
  obtain ⟨x, hx⟩ : ∃ x, x = k * n := ⟨_, rfl⟩
  rw [← hx]
  have h1 : x / workers + n / workers ≤ (x + n) / workers := by
    rw [Nat.le_div_iff_mul_le h, Nat.add_mul]
    exact Nat.add_le_add (Nat.div_mul_le_self _ _) (Nat.div_mul_le_self _ _)
  have h2 : (x + n) / workers < x / workers + n / workers + 2 := by
    rw [Nat.div_lt_iff_lt_mul h]
    have a1 := Nat.lt_mul_div_succ x h
    have a2 := Nat.lt_mul_div_succ n h
    have : (x / workers + n / workers + 2) * workers = workers * (x / workers + 1) + workers * (n / workers + 1) := by
      rw [← Nat.mul_add, Nat.mul_comm]; congr 1; omega
    omega
  obtain ⟨A, hA⟩ : ∃ A, A = (x + n) / workers := ⟨_, rfl⟩
  obtain ⟨B, hB⟩ : ∃ B, B = x / workers := ⟨_, rfl⟩
  obtain ⟨C, hC⟩ : ∃ C, C = n / workers := ⟨_, rfl⟩
  rw [← hA, ← hB, ← hC] at h1 h2
  rw [← hA, ← hB, ← hC]
  clear hA hB hC hx
  constructor <;> omega

set_option maxHeartbeats 2000000 in
theorem DataShards_skip (s : Nat) (a b c : Int) (w : World) (h : ¬ (1 ≤ a ∧ a ≤ 64 ∧ a ≤ c ∧ c ≤ 4096)) : Calls Try.prog 14 #[.agg #[.int .u64 (s : Int), .int .i64 a, .int .i64 b, .int .i64 c]] w (Yes w) := by
  have HD := Lib.hid (decide_eq_false h)
  go_enter Try.func14, Try.ntmps14
  go_wp2_with fail
  refine (awake6_any _).mono ?_
  rintro e w1 ⟨rfl, hb1⟩
  have hB1 : Below (w.heap.size + 1) (w.alloc (Obj.cells #[.int .u64 (s : Int), .int .i64 a, .int .i64 b, .int .i64 c] 51)) w1 := hb1.mono (by simp)
  have hs1 := Below.le hB1 (by simp)
  clear hb1
  obtain ⟨k0, k1, k2, k3⟩ := key_cells hB1
  go_wp2_with fail
  refine (Right_any _ _ _).mono ?_
  rintro e w3 ⟨rfl, rfl⟩
  rw [HD.out]
  go_wp2_with fail
  go_ret
  exact ⟨rfl, ((Below.refl _ _).alloc (Nat.le_refl _) _).trans (hB1.mono (by omega))⟩
set_option maxHeartbeats 2000000 in
theorem DataShards_big (s : Nat) (a b c : Int) (w : World) (h : (1 ≤ a ∧ a ≤ 64 ∧ a ≤ c ∧ c ≤ 4096)) (h2 : 300 < c) : Calls Try.prog 14 #[.agg #[.int .u64 (s : Int), .int .i64 a, .int .i64 b, .int .i64 c]] w (Yes w) := by
  have HD := Lib.hid (decide_eq_true h)
  have d1 := decide_eq_true h2
  go_enter Try.func14, Try.ntmps14
  go_wp2_with fail
  refine (awake6_any _).mono ?_
  rintro e w1 ⟨rfl, hb1⟩
  have hB1 : Below (w.heap.size + 1) (w.alloc (Obj.cells #[.int .u64 (s : Int), .int .i64 a, .int .i64 b, .int .i64 c] 51)) w1 := hb1.mono (by simp)
  have hs1 := Below.le hB1 (by simp)
  clear hb1
  obtain ⟨k0, k1, k2, k3⟩ := key_cells hB1
  go_wp2_with fail
  refine (Right_any _ _ _).mono ?_
  rintro e w3 ⟨rfl, rfl⟩
  rw [HD.out]
  go_wp2_with fail
  go_ret
  exact ⟨rfl, ((Below.refl _ _).alloc (Nat.le_refl _) _).trans (hB1.mono (by omega))⟩

set_option maxHeartbeats 8000000 in
theorem DataShards_yes (s a c : Nat) (b : Int) (w : World) (h0 : 1 ≤ a) (h1 : a ≤ 64) (h2 : a ≤ c) (h3 : c ≤ 300) : Calls Try.prog 14 #[.agg #[.int .u64 (s : Int), .int .i64 (a : Int), .int .i64 b, .int .i64 (c : Int)]] w (Yes w) := by
  obtain ⟨i0, hi, hz0, hz1, hz2⟩ := info_parts Try.info4
  have HZ0 := Lib.hid hz0; have HZ1 := Lib.hid hz1; have HZ2 := Lib.hid hz2; have HI := Lib.hid hi
  clear hz0 hz1 hz2 hi
  have HD := Lib.hid (decide_eq_true (show (1 : Int) ≤ (a : Int) ∧ (a : Int) ≤ 64 ∧ (a : Int) ≤ (c : Int) ∧ (c : Int) ≤ 4096 by omega))
  have d1 : decide ((300 : Int) < (c : Int)) = false := decide_eq_false (by omega)
  have hq1 : 1 ≤ c / a := (Nat.le_div_iff_mul_le h0).2 (by omega)
  have hqc : c / a ≤ c := Nat.div_le_self _ _
  have HSHARE := Lib.hid (fun k => M.share_len (workers := a) (n := c) (k := k) h0)
  obtain ⟨q, hq⟩ : ∃ q, q = c / a := ⟨_, rfl⟩
  rw [← hq] at hq1 hqc HSHARE
  clear hq
  go_enter Try.func14, Try.ntmps14
  go_wp2_with fail
  refine (awake6_any _).mono ?_
  rintro e w1 ⟨rfl, hb1⟩
  have hB1 : Below (w.heap.size + 1) (w.alloc (Obj.cells #[.int .u64 (s : Int), .int .i64 (a : Int), .int .i64 b, .int .i64 (c : Int)] 51)) w1 := hb1.mono (by simp)
  have hs1 := Below.le hB1 (by simp)
  clear hb1
  obtain ⟨k0, k1, k2, k3⟩ := key_cells hB1
  go_wp2_with fail
  refine (Right_any _ _ _).mono ?_
  rintro e w3 ⟨rfl, rfl⟩
  rw [HD.out]
  go_wp2_with (at_make; refine wpList_make_full _ rfl _ _ 39 rfl w3.heap.size 4 i0 (.bool false) 1 Try.underlying39 HI.out HZ0.out HZ1.out .i64 .i64 _ _ c rfl rfl rfl rfl (by rw [HZ2.out]; omega) (by unfold maxLen; omega) (Nat.le_refl _) ?_; intro w4 hown4 hgrow4; have hM4 : Below w3.heap.size w3 w4 := (Below.refl _ _).grown hgrow4 (Nat.le_refl _) (by intro k h; cases h); clear hgrow4 k0 k1 k2 k3; obtain ⟨k0, k1, k2, k3⟩ := key_cells (after_call hB1 hs1 hM4))
  rw [toList_madeCells_one', ← M.seen_zero s c] at hown4
  obtain ⟨g3, hg3⟩ : ∃ g3, g3 = w3.heap.size := ⟨_, rfl⟩
  rw [← hg3] at hown4 ⊢
  have HG3 := Lib.hid hg3
  clear hg3
  go_loopw [4, 5, 6, 7, 8, 10, 11, 12, 35] (fun l h _ _ _ _ _ _ i wr => ∃ k lo hi : Nat, k ≤ a ∧ i = .int .i64 (k : Int) ∧ l = .int .i64 (lo : Int) ∧ h = .int .i64 (hi : Int) ∧ q ≤ lo ∧ lo ≤ c ∧ hi ≤ q + 1 ∧
      wr.ownsRow g3 4 1 (.slice (some ⟨g3, 0, none⟩) c c) c ((M.seen s c (M.beg a c k)).map Value.bool) ∧ Below w3.heap.size w3 wr) (fun _ _ _ _ _ _ _ _ i _ => a - (intOf i).toNat)
  case atStart => exact ⟨0, c, 0, Nat.zero_le _, rfl, rfl, rfl, hqc, Nat.le_refl _, Nat.zero_le _, by rw [M.beg_zero]; exact hown4, hM4⟩
  case round =>
    obtain ⟨k, lo, hi, hk, rfl, rfl, rfl, hlo, hlc, hhi, hown, hM⟩ := hrel
    clear hown4 hM4 k0 k1 k2 k3
    by_cases hlt : k < a
    · obtain ⟨k0, k1, k2, k3⟩ := key_cells (after_call hB1 hs1 hM)
      have HM := Lib.hid hM
      have HO := Lib.hid hown
      clear hM hown
      go_wp2_with fail
      refine (Own_yes s a k c _ h0 h1 h2 (by omega) hlt).mono ?_
      rintro e w5 ⟨v5, rfl, hrow5, hb5⟩
      have hlen5 := M.own_length s a c k
      have hsh := HSHARE.out k
      have hbl := M.beg_le_of (workers := a) (n := c) (show k ≤ k + 1 by omega)
      have hbn := M.beg_le (n := c) h0 (show k + 1 ≤ a by omega)
      have hM5 : Below w3.heap.size w3 w5 := HM.out.trans (hb5.mono (by have := HM.out.size; omega))
      have hown5 := owns_below HO.out hb5
      have hnth : ∀ j, j < M.beg a c (k + 1) - M.beg a c k → nth (M.own s a c k) j = ((M.bck s 1 0 0 c (M.beg a c k + j) : Nat) : Int) := fun j hj => by
        simp [nth, M.own, M.ownK, List.getD_eq_getElem?_getD, hj]
      rw [hlen5] at hrow5
      obtain ⟨n5, hn5⟩ : ∃ n5, n5 = M.beg a c (k + 1) - M.beg a c k := ⟨_, rfl⟩
      rw [← hn5] at hrow5 hnth hsh
      have hrd := Reads.of_owns (L := M.own s a c k) (by rw [hlen5, ← hn5]; exact hrow5)
      obtain ⟨g5, cap5, rfl⟩ : ∃ g cap, v5 = .slice (some ⟨g, 0, none⟩) n5 cap := by
        rcases ownsRow_forms hrow5 with ⟨_, h⟩ | ⟨g, cap, h⟩
        · omega
        · exact ⟨g, cap, h⟩
      have hg5 : wr.heap.size ≤ g5 := (hrow5.lt g5 rfl).1
      have hg35 : g3 < wr.heap.size := (HO.out.lt g3 rfl).2
      have hcell : ∀ j, j < n5 → w5.cell? ⟨g5, j, none⟩ = some (.int .i64 ((M.bck s 1 0 0 c (M.beg a c k + j) : Nat) : Int)) := fun j hj => by
        obtain ⟨_, _, he, hc⟩ := hrd
        cases he
        obtain ⟨_, e2, h2⟩ := hc j (by rw [hlen5, ← hn5]; exact hj)
        cases e2
        rw [hnth j hj] at h2
        by_cases hj0 : j = 0
        · subst hj0; simpa [Addr.add] using h2
        · simpa [Addr.add, hj0] using h2
      clear hrd hrow5 hnth hb5 k0 k1 k2 k3
      obtain ⟨k0, k1, k2, k3⟩ := key_cells (after_call hB1 hs1 hM5)
      have HC5 := Lib.hid hcell
      have HM5 := Lib.hid hM5
      have HO5 := Lib.hid hown5
      have HN5 := Lib.hid hn5
      have HLEN5 := Lib.hid hlen5
      clear hcell hM5 hown5 hn5 hlen5
      have h65 : c ≤ 65536 := by omega
      go_wp2_with fail
      all_goals
        go_loopw [10, 11, 12, 61] (fun _ _ _ i W => ∃ j : Nat, j ≤ n5 ∧ i = .int .i64 (j : Int) ∧ W.ownsRow g3 4 1 (.slice (some ⟨g3, 0, none⟩) c c) c ((M.seen s c (M.beg a c k + j)).map Value.bool) ∧ Below w3.heap.size w3 W ∧
            (∀ j, j < n5 → W.cell? ⟨g5, j, none⟩ = some (.int .i64 ((M.bck s 1 0 0 c (M.beg a c k + j) : Nat) : Int)))) (fun _ _ _ i _ => n5 - (intOf i).toNat)
        case atStart => exact ⟨0, Nat.zero_le _, rfl, HO5.out, HM5.out, HC5.out⟩
        case round =>
          obtain ⟨j, hj, rfl, hownj, hMj, hcj⟩ := hrel
          clear k0 k1 k2 k3
          by_cases hjn : j < n5
          · have hp : M.beg a c k + j < c := by have := HN5.out; omega
            have hX := M.bck_lt s 1 0 0 h65 hp
            have hpl := M.plc_bck s 1 0 0 h65 hp
            have hnew := M.seen_new (s := s) h65 hp
            have hstep := M.seen_step (s := s) h65 hp
            have cX := hcj j hjn
            have hpe : M.beg a c k + j < M.beg a c (k + 1) := by have := HN5.out; omega
            have hpb : M.beg a c k ≤ M.beg a c k + j := Nat.le_add_right _ _
            have dX := hownj.cellAt (M.bck s 1 0 0 c (M.beg a c k + j)) (by omega)
            rw [map_bool_get hnew] at dX
            have h5 := (hownj.stored (M.bck s 1 0 0 c (M.beg a c k + j)) (.bool true)).1
            rw [← List.map_set, hstep] at h5
            have h6 := hMj.setCell (p := ⟨g3, M.bck s 1 0 0 c (M.beg a c k + j), none⟩) (by rw [HG3.out]; exact Nat.le_refl _) (.bool true)
            have fX := hownj.frozenAt (M.bck s 1 0 0 c (M.beg a c k + j))
            have HCJ := Lib.hid hcj
            obtain ⟨p, hpp⟩ : ∃ p, p = M.beg a c k + j := ⟨_, rfl⟩
            rw [← hpp] at hp hX hpl hnew hstep cX hpe hpb dX h5 h6 fX
            obtain ⟨X, hXX⟩ : ∃ X, X = M.bck s 1 0 0 c p := ⟨_, rfl⟩
            rw [← hXX] at hX hpl cX dX h5 h6 fX
            have HPP := Lib.hid hpp
            have HPL := Lib.hid hpl
            have HH5 := Lib.hid h5
            have HH6 := Lib.hid h6
            have hsj := hMj.size
            obtain ⟨k0, k1, k2, k3⟩ := key_cells (after_call hB1 hs1 hMj)
            obtain ⟨n0, n1, n2, n3⟩ := key_cells (after_call hB1 hs1 h6)
            have e1 : decide ((X : Int) < 0) = false := decide_eq_false (by omega)
            have e2 : decide ((c : Int) ≤ (X : Int)) = false := decide_eq_false (by omega)
            have e3 : decide (c ≤ X) = false := decide_eq_false (by omega)
            clear hcj hnew hstep h5 h6 hpl hXX hpp hownj hMj
            go_wp2_with fail
            refine (Owner_yes s a c X _ h0 h1 h2 (by omega) hX).mono ?_
            rintro e w6 ⟨x, rfl, ho, hol, hoh, hb6⟩
            rw [HPL.out] at hol hoh
            have hok : x = k := M.beg_one hol hoh hpb hpe
            rw [hok]
            have hM6 : Below w3.heap.size w3 w6 := HH6.out.trans (hb6.mono (by have := HH6.out.size; omega))
            have hown6 := owns_below HH5.out hb6
            have hc6 : ∀ j, j < n5 → w6.cell? ⟨g5, j, none⟩ = some (.int .i64 ((M.bck s 1 0 0 c (M.beg a c k + j) : Nat) : Int)) := fun i hi => by
              have z := (World.cell?_setCell_far wr ⟨g3, X, none⟩ ⟨g5, i, none⟩ (.bool true) (by show g3 ≠ g5; omega)).trans (HCJ.out i hi)
              exact (hb6.cell (World.block_lt_of_cell? _ _ z)).trans z
            have Q1 := Lib.hid hM6; have Q2 := Lib.hid hown6; have Q3 := Lib.hid hc6
            clear hM6 hown6 hc6 hb6 k0 k1 k2 k3 n0 n1 n2 n3 cX dX fX hol hoh hok ho
            go_wp2_with fail
            go_roundw
            case rel => exact ⟨j + 1, by omega, by go_num, by rw [show M.beg a c k + (j + 1) = p + 1 by have := HPP.out; omega]; exact Q2.out, Q1.out, Q3.out⟩
            case measure => simp [intOf]; omega
          · have hbe : M.beg a c k + j = M.beg a c (k + 1) := by have := HN5.out; omega
            rw [hbe] at hownj
            have Q1 := Lib.hid hMj; have Q2 := Lib.hid hownj
            clear hMj hownj hcj
            go_wp2_with fail
            go_roundw
            case rel => exact ⟨k + 1, _, _, by omega, by go_num, rfl, rfl, by omega, by omega, by omega, Q2.out, Q1.out⟩
            case measure => simp [intOf]; omega
    · have hka : k = a := by omega
      rw [hka, M.beg_full h0] at hown
      have e1 : decide ((1 : Int) ≤ (lo : Int)) = true := decide_eq_true (by omega)
      have e2 : decide ((hi : Int) - (lo : Int) ≤ 1) = true := decide_eq_true (by omega)
      have HO := Lib.hid hown
      have HM := Lib.hid hM
      clear hown hM
      obtain ⟨V, rfl⟩ : ∃ V, V = wr := ⟨_, rfl⟩
      go_wp2_with fail
      go_loopw [14, 104] (fun _ i W => ∃ j : Nat, j ≤ c ∧ i = .int .i64 (j : Int) ∧ W = V) (fun _ i _ => c - (intOf i).toNat)
      case atStart => exact ⟨0, Nat.zero_le _, rfl, rfl⟩
      case round =>
        obtain ⟨j, hj, rfl, rfl⟩ := hrel
        by_cases hjn : j < c
        · have dj := HO.out.cellAt j (by omega)
          rw [map_bool_get (M.seen_full (s := s) (by omega : c ≤ 65536) hjn)] at dj
          go_wp2_with fail
          go_roundw
          case rel => exact ⟨j + 1, by omega, by go_num, trivial⟩
          case measure => simp [intOf]; omega
        · go_wp2_with fail
          go_ret
          exact ⟨rfl, ((Below.refl _ _).alloc (Nat.le_refl _) _).trans ((after_call hB1 hs1 HM.out).mono (by omega))⟩

theorem DataShards_row (s a b c : Int) (w : World) (hs : (Lit.int .u64 s).wf = true) (ha : (Lit.int .i64 a).wf = true) (hb : (Lit.int .i64 b).wf = true) (hc : (Lit.int .i64 c).wf = true) :
    Calls Try.prog 14 #[.agg #[.int .u64 s, .int .i64 a, .int .i64 b, .int .i64 c]] w fun e w' => e = .returned (.bool true) ∧ Below w.heap.size w w' := by
  obtain ⟨q, rfl, _⟩ := nat_of_u64 hs
  by_cases h2 : 1 ≤ a ∧ a ≤ 64 ∧ a ≤ c ∧ c ≤ 4096
  · by_cases h3 : 300 < c
    · exact DataShards_big q a b c w h2 h3
    obtain ⟨a', rfl⟩ : ∃ m : Nat, a = m := ⟨a.toNat, by omega⟩
    obtain ⟨c', rfl⟩ : ∃ m : Nat, c = m := ⟨c.toNat, by omega⟩
    exact DataShards_yes q a' c' b w (by omega) (by omega) (by omega) (by omega)
  · exact DataShards_skip q a b c w h2
end Go.Proofs.Ytcojiienmmmihaa
