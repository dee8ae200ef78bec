/- Walks: the law DataPasses. -/
import Derived.Test.YtcojiienmmmihaaDj
import Derived.Test.YtcojiienmmmihaaDk
namespace Go.Proofs.Ytcojiienmmmihaa
open Go.RowKit Go.Joins Go.Shelf
set_option maxRecDepth 100000
set_option linter.unusedVariables false

def M.base (n : Nat) : List Int := (List.range n).map fun (i : Nat) => 1000 + (i : Int)
theorem M.base_succ (n : Nat) : M.base (n + 1) = M.base n ++ [1000 + (n : Int)] := by simp [M.base, List.range_succ]
theorem M.base_length (n : Nat) : (M.base n).length = n := by simp [M.base]
theorem M.base_nth {n i : Nat} (h : i < n) : nth (M.base n) i = 1000 + (i : Int) := by simp [nth, M.base, List.getD, h]
/-- What a worker looks at, from the first step on. -/
noncomputable def M.allTo (s worker round n m : Nat) : List Int := (List.range m).map fun (q : Nat) => 1000 + ((M.plc s 2 (worker : Int) ((round : Int) * 65536 + ((q / n : Nat) : Int)) n (q % n) : Nat) : Int)
theorem M.allTo_length (s worker round n m : Nat) : (M.allTo s worker round n m).length = m := by simp [M.allTo]
theorem M.allTo_step {s worker round n k d : Nat} (hn : 1 ≤ n) (hn2 : n ≤ 65536) (hb : k * d + d ≤ 8191) :
    M.allTo s worker round n (k * d) ++ M.batch s worker round k d n hn (M.base n) = M.allTo s worker round n (k * d + d) := by
  unfold M.allTo M.batch turnsTo
  rw [List.range_add, List.map_append, List.map_map, List.map_map]
  congr 1
  apply List.map_congr_left
  intro j hj
  have hj' := List.mem_range.1 hj
  have h1 : (k * d + j) / n ≤ 8191 := Nat.le_trans (Nat.div_le_self _ _) (by omega)
  have h2 := M.plc_lt s 2 (worker : Int) ((round : Int) * 65536 + (((k * d + j) / n : Nat) : Int)) hn2 (Nat.mod_lt (k * d + j) hn)
  simp only [Function.comp, M.batchAt, turnAt, Nat.min_eq_left h1]
  rw [M.base_nth h2]
theorem M.allTo_nth {s worker round n m t j : Nat} (hj : j < n) (hm : t * n + j < m) :
    nth (M.allTo s worker round n m) (t * n + j) = 1000 + ((M.plc s 2 (worker : Int) ((round : Int) * 65536 + (t : Int)) n j : Nat) : Int) := by
  have h1 : (t * n + j) / n = t := by rw [Nat.add_comm, Nat.add_mul_div_right _ _ (by omega), Nat.div_eq_of_lt hj, Nat.zero_add]
  have h2 : (t * n + j) % n = j := by rw [Nat.add_comm, Nat.add_mul_mod_self_right, Nat.mod_eq_of_lt hj]
  simp only [nth, M.allTo]
  rw [List.getD_eq_getElem?_getD, List.getElem?_map, List.getElem?_range hm]
  simp only [Option.map_some, Option.getD_some, h1, h2]

theorem Reads.at0 {w : World} {g n cap : Nat} {L : List Int} (h : Reads w (.slice (some ⟨g, 0, none⟩) n cap) L) : ∀ j, j < n → w.cell? ⟨g, j, none⟩ = some (.int .i64 (nth L j)) := by
  obtain ⟨oa, cp, he, hc⟩ := h
  injection he with h1 h2 h3
  subst h1 h2 h3
  intro j hj
  obtain ⟨ad, e, h⟩ := hc j hj
  cases e
  by_cases hj0 : j = 0
  · subst hj0; simpa [Addr.add] using h
  · simpa [Addr.add, hj0] using h

set_option maxHeartbeats 2000000 in
theorem DataPasses_low (s : Nat) (a b c d n : Int) (w : World) (h : n < 1) : Calls Try.prog 12 #[.agg #[.int .u64 (s : Int), .int .i64 a, .int .i64 b, .int .i64 c, .int .i64 d], .int .i64 n] w (Yes w) := by
  have d1 := decide_eq_true h
  go_enter Try.func12, Try.ntmps12
  go_wp2_with fail
  refine (awake6_any _).mono ?_
  rintro e w1 ⟨rfl, hb1⟩
  have hB1 : Below (w.heap.size + 1) (w.alloc (Obj.cells #[.int .u64 (s : Int), .int .i64 a, .int .i64 b, .int .i64 c, .int .i64 d] 58)) w1 := hb1.mono (by simp)
  have hs1 := Below.le hB1 (by simp)
  clear hb1
  obtain ⟨k0, k1, k2, k3, k4⟩ := ask_cells hB1
  go_wp2_with fail
  go_ret
  exact ⟨rfl, ((Below.refl _ _).alloc (Nat.le_refl _) _).trans (hB1.mono (by omega))⟩

set_option maxHeartbeats 2000000 in
theorem DataPasses_high (s : Nat) (a b c d n : Int) (w : World) (h : ¬ n < 1) (h2 : 60 < n) : Calls Try.prog 12 #[.agg #[.int .u64 (s : Int), .int .i64 a, .int .i64 b, .int .i64 c, .int .i64 d], .int .i64 n] w (Yes w) := by
  have d1 := decide_eq_false h
  have d2 := decide_eq_true h2
  go_enter Try.func12, Try.ntmps12
  go_wp2_with fail
  refine (awake6_any _).mono ?_
  rintro e w1 ⟨rfl, hb1⟩
  have hB1 : Below (w.heap.size + 1) (w.alloc (Obj.cells #[.int .u64 (s : Int), .int .i64 a, .int .i64 b, .int .i64 c, .int .i64 d] 58)) w1 := hb1.mono (by simp)
  have hs1 := Below.le hB1 (by simp)
  clear hb1
  obtain ⟨k0, k1, k2, k3, k4⟩ := ask_cells hB1
  go_wp2_with fail
  go_ret
  exact ⟨rfl, ((Below.refl _ _).alloc (Nat.le_refl _) _).trans (hB1.mono (by omega))⟩

set_option maxHeartbeats 2000000 in
theorem DataPasses_not (s : Nat) (a b c d n : Int) (w : World) (h : ¬ n < 1) (h2 : ¬ 60 < n) (h3 : ¬ (0 ≤ a ∧ a < 64 ∧ 0 ≤ b ∧ b ≤ 256 ∧ 0 ≤ (0 : Int) ∧ (0 : Int) < 64 ∧ 1 ≤ d ∧ d ≤ 64 ∧ 1 ≤ n ∧ n ≤ 4096)) : Calls Try.prog 12 #[.agg #[.int .u64 (s : Int), .int .i64 a, .int .i64 b, .int .i64 c, .int .i64 d], .int .i64 n] w (Yes w) := by
  have d1 := decide_eq_false h
  have d2 := decide_eq_false h2
  have HD := Lib.hid (decide_eq_false h3)
  go_enter Try.func12, Try.ntmps12
  go_wp2_with fail
  refine (awake6_any _).mono ?_
  rintro e w1 ⟨rfl, hb1⟩
  have hB1 : Below (w.heap.size + 1) (w.alloc (Obj.cells #[.int .u64 (s : Int), .int .i64 a, .int .i64 b, .int .i64 c, .int .i64 d] 58)) w1 := hb1.mono (by simp)
  have hs1 := Below.le hB1 (by simp)
  clear hb1
  obtain ⟨k0, k1, k2, k3, k4⟩ := ask_cells hB1
  go_wp2_with fail
  refine (Asked_any _ _ _ _ _ _).mono ?_
  rintro e w3 ⟨rfl, rfl⟩
  rw [HD.out]
  go_wp2_with fail
  go_ret
  exact ⟨rfl, ((Below.refl _ _).alloc (Nat.le_refl _) _).trans (hB1.mono (by omega))⟩

theorem reads_news {w : World} {g n cap : Nat} {L : List Int} (h : Reads w (.slice (some ⟨g, 0, none⟩) n cap) L) : ∀ (j : Nat) (u : Value), (L.map (Value.int .i64))[j]? = some u → w.cell? ((⟨g, 0, none⟩ : Addr).add j) = some u := by
  obtain ⟨oa, cp, he, hc⟩ := h
  injection he with h1 h2 h3
  subst h1 h2 h3
  intro j u hu
  rw [List.getElem?_map] at hu
  obtain ⟨x, hx, rfl⟩ := Option.map_eq_some_iff.1 hu
  have hj : j < L.length := (List.getElem?_eq_some_iff.1 hx).1
  obtain ⟨ad, e, h⟩ := hc j hj
  cases e
  rw [h]
  simp [nth, List.getD_eq_getElem?_getD, hx]

def lenOf : Value → Nat
  | .slice _ l _ => l
  | _ => 0

set_option maxHeartbeats 8000000 in
theorem DataPasses_yes (s a b d n : Nat) (c : Int) (w : World) (h1 : a ≤ 63) (h2 : b ≤ 256) (h4 : 1 ≤ d) (h5 : d ≤ 64) (h6 : 1 ≤ n) (h7 : n ≤ 60) : Calls Try.prog 12 #[.agg #[.int .u64 (s : Int), .int .i64 (a : Int), .int .i64 (b : Int), .int .i64 c, .int .i64 (d : Int)], .int .i64 (n : Int)] w (Yes w) := by
  obtain ⟨i0, hi, hz0, hz1, hz2⟩ := info_parts Try.info3
  have HZ0 := Lib.hid hz0; have HZ1 := Lib.hid hz1; have HZ2 := Lib.hid hz2; have HI := Lib.hid hi
  clear hz0 hz1 hz2 hi
  obtain ⟨i4, ji, jz0, jz1, jz2⟩ := info_parts Try.info4
  have JZ0 := Lib.hid jz0; have JZ1 := Lib.hid jz1; have JZ2 := Lib.hid jz2; have JI := Lib.hid ji
  clear jz0 jz1 jz2 ji
  have d1 : decide ((n : Int) < 1) = false := decide_eq_false (by omega)
  have d2 : decide ((60 : Int) < (n : Int)) = false := decide_eq_false (by omega)
  have HD := Lib.hid (decide_eq_true (show 0 ≤ (a : Int) ∧ (a : Int) < 64 ∧ 0 ≤ (b : Int) ∧ (b : Int) ≤ 256 ∧ 0 ≤ (0 : Int) ∧ (0 : Int) < 64 ∧ 1 ≤ (d : Int) ∧ (d : Int) ≤ 64 ∧ 1 ≤ (n : Int) ∧ (n : Int) ≤ 4096 by omega))
  go_enter Try.func12, Try.ntmps12
  go_wp2_with fail
  refine (awake6_any _).mono ?_
  rintro e w1 ⟨rfl, hb1⟩
  have hB1 : Below (w.heap.size + 1) (w.alloc (Obj.cells #[.int .u64 (s : Int), .int .i64 (a : Int), .int .i64 (b : Int), .int .i64 c, .int .i64 (d : Int)] 58)) w1 := hb1.mono (by simp)
  have hs1 := Below.le hB1 (by simp)
  clear hb1
  obtain ⟨k0, k1, k2, k3, k4⟩ := ask_cells hB1
  go_wp2_with fail
  refine (Asked_any _ _ _ _ _ _).mono ?_
  rintro e w3 ⟨rfl, rfl⟩
  rw [HD.out]
  go_wp2_with fail
  go_loopw [5, 6, 34] (fun out _ i W => ∃ k : Nat, k ≤ n ∧ i = .int .i64 (k : Int) ∧ W.ownsRow w3.heap.size 3 1 out k ((M.base k).map (Value.int .i64)) ∧ Below w3.heap.size w3 W) (fun _ _ i _ => n - (intOf i).toNat)
  case atStart => exact ⟨0, Nat.zero_le _, rfl, World.ownsRow_nil _ _ _ _, Below.refl _ _⟩
  case round =>
    obtain ⟨k, hk, rfl, hown, hB⟩ := hrel
    clear k0 k1 k2 k3 k4
    by_cases hlt : k < n
    · have hsz := hB.size
      have HB := Lib.hid hB
      clear hB
      go_wp2_with (at_builtin; refine wpList_append_own _ rfl (.tmp 37) (.tmp 40) 34 rfl w3.heap.size 3 i0 (.int .i64 0) 1 8 Try.underlying34 HI.out HZ0.out HZ1.out HZ2.out rfl (by decide) _ k _ rfl (hown.alloc _) ⟨wr.heap.size, 0, none⟩ 1 1 [.int .i64 (1000 + (k : Int))] rfl rfl (cell_one_new _ _ _) (by intro u hu; simp at hu; subst hu; rfl) (by unfold maxLen; omega) (by omega) (by simp; omega) ?_; intro v1 w6 hown6 hgrow6 hnil6)
      have hB7 := (HB.out.alloc hsz (Obj.cells #[.int .i64 (1000 + (k : Int))] 3)).grown hgrow6 (by simp; omega) (fun q hq => (hown.lt q hq).1)
      go_roundw
      case rel => exact ⟨k + 1, by omega, by go_num, by rw [M.base_succ, List.map_append]; exact hown6, hB7⟩
      case measure => simp [intOf]; omega
    · obtain rfl : k = n := by omega
      clear hlt hk
      obtain ⟨g, cap, rfl⟩ : ∃ g cap, u5 = .slice (some ⟨g, 0, none⟩) k cap := by
        rcases ownsRow_forms hown with ⟨_, h⟩ | ⟨g, cap, h⟩
        · omega
        · exact ⟨g, cap, h⟩
      have hL := (Reads.of_owns (L := M.base k) (by rw [M.base_length]; exact hown)).at0
      have HL := Lib.hid hL
      have HB := Lib.hid hB
      clear hown hB hL
      obtain ⟨V, rfl⟩ : ∃ V, V = wr := ⟨_, rfl⟩
      have hsv := HB.out.size
      have HSTEP := Lib.hid (fun j hb => M.allTo_step (s := s) (worker := a) (round := b) (n := k) (k := j) (d := d) h6 (by omega) hb)
      go_wp2_with fail
      go_loopw [7, 8, 9, 10, 43] (fun all _ _ _ i W => ∃ j m : Nat, j ≤ 12 ∧ m = j * d ∧ i = .int .i64 (j : Int) ∧ W.ownsRow V.heap.size 3 1 all m ((M.allTo s a b k m).map (Value.int .i64)) ∧ Below V.heap.size V W) (fun _ _ _ _ i _ => 12 - (intOf i).toNat)
      case atStart => exact ⟨0, 0, by omega, by omega, rfl, World.ownsRow_nil _ _ _ _, Below.refl _ _⟩
      case round =>
        obtain ⟨j, m, hj, hm, rfl, hown, hBj⟩ := hrel
        have hmb : m ≤ 12 * 64 := by rw [hm]; exact Nat.mul_le_mul hj h5
        by_cases hj12 : j < 12
        · have e1 : decide ((j : Int) < 12) = true := decide_eq_true (by omega)
          have hB3 := HB.out.trans (hBj.mono hsv)
          obtain ⟨k0, k1, k2, k3, k4⟩ := ask_cells (after_call hB1 hs1 hB3)
          have HO := Lib.hid hown
          have HBJ := Lib.hid hBj
          have HM := Lib.hid hm
          clear hown hBj hB3 hm
          go_wp2_with fail
          refine (Batch_yes s a b j d k g cap (M.base k) _ h1 h2 (by omega) h4 h5 h6 (by omega) (fun i hi => ?_)).mono ?_
          · have z := HL.out i hi
            exact (HBJ.out.cell (World.block_lt_of_cell? _ _ z)).trans z
          rintro e w5 ⟨v5, rfl, hrow5, hb5⟩
          have hbl : (M.batch s a b j d k h6 (M.base k)).length = d := by simp [M.batch, turnsTo_length]
          have hst := HSTEP.out j (by have := HM.out; omega)
          rw [← HM.out] at hst
          have hBJ5 : Below V.heap.size V w5 := HBJ.out.trans (hb5.mono HBJ.out.size)
          have hown5 := owns_below HO.out hb5
          have hrd5 := Reads.of_owns hrow5
          rw [hbl] at hrow5
          obtain ⟨g5, cap5, rfl⟩ : ∃ g cap, v5 = .slice (some ⟨g, 0, none⟩) d cap := by
            rcases ownsRow_forms hrow5 with ⟨_, h⟩ | ⟨g, cap, h⟩
            · omega
            · exact ⟨g, cap, h⟩
          have hnews := reads_news hrd5
          clear hrd5 hrow5 hb5 k0 k1 k2 k3 k4
          obtain ⟨BL, hBL⟩ : ∃ BL, BL = M.batch s a b j d k h6 (M.base k) := ⟨_, rfl⟩
          rw [← hBL] at hnews hst hbl
          have HST := Lib.hid hst
          have HNEWS := Lib.hid hnews
          clear hBL hst hnews
          obtain ⟨k0, k1, k2, k3, k4⟩ := ask_cells (after_call hB1 hs1 (HB.out.trans (hBJ5.mono hsv)))
          have hsz5 := hBJ5.size
          have HBJ5 := Lib.hid hBJ5
          clear hBJ5
          go_wp2_with (at_builtin; refine wpList_append_own _ rfl (.tmp 69) (.tmp 70) 34 rfl V.heap.size 3 i0 (.int .i64 0) 1 8 Try.underlying34 HI.out HZ0.out HZ1.out HZ2.out rfl (by decide) _ m _ rfl hown5 ⟨g5, 0, none⟩ d cap5 (BL.map (Value.int .i64)) rfl (by simp [hbl]) HNEWS.out (by intro u hu; obtain ⟨x, _, rfl⟩ := List.mem_map.1 hu; rfl) (by unfold maxLen; omega) (by omega) hsz5 ?_; intro v1 w6 hown6 hgrow6 hnil6)
          have hB7 := HBJ5.out.grown hgrow6 hsz5 (fun q hq => (hown5.lt q hq).1)
          go_roundw
          case rel => exact ⟨j + 1, m + d, by omega, by rw [Nat.succ_mul, ← HM.out], by go_num, by rw [← HST.out, List.map_append]; exact hown6, hB7⟩
          case measure => simp [intOf]; omega
        · have hj12' : j = 12 := by omega
          rw [hj12'] at hm
          clear hj12'
          obtain ⟨ga, capa, rfl⟩ : ∃ g cap, u7 = .slice (some ⟨g, 0, none⟩) m cap := by
            rcases ownsRow_forms hown with ⟨_, h⟩ | ⟨g, cap, h⟩
            · omega
            · exact ⟨g, cap, h⟩
          have hcap : m ≤ capa := by
            rcases hown.2 with ⟨h, _⟩ | ⟨g', cap', cur, hv, _, _, hle, _⟩
            · cases h
            · cases hv; exact hle
          have hL2 := (Reads.of_owns (L := M.allTo s a b k m) (by rw [M.allTo_length]; exact hown)).at0
          have HL2 := Lib.hid hL2
          have hB3 := HB.out.trans (hBj.mono hsv)
          have HB3 := Lib.hid hB3
          clear hown hBj hL2 hB3
          have e1 : decide ((j : Int) < 12) = false := decide_eq_false (by omega)
          obtain ⟨V3, rfl⟩ : ∃ V3, V3 = wr := ⟨_, rfl⟩
          go_wp2_with fail
          go_loopw [7, 11, 13] (fun all _ _ W => ∃ (t off r cp : Nat) (ad : Addr), off = t * k ∧ off + r = m ∧ all = .slice (some ad) r cp ∧ r ≤ cp ∧ (0 < r → ad = ⟨ga, off, none⟩) ∧ Below V3.heap.size V3 W) (fun all _ _ _ => lenOf all)
          case atStart => exact ⟨0, 0, m, capa, _, by omega, by omega, rfl, hcap, fun _ => rfl, Below.refl _ _⟩
          case round =>
            obtain ⟨t, off, r, cp, ad, hoff, hor, rfl, hrc, had, hBt⟩ := hrel
            by_cases hrk : k ≤ r
            · have e2 : decide ((k : Int) ≤ (r : Int)) = true := decide_eq_true (by omega)
              obtain rfl := had (by omega)
              have hbsz := hBt.size
              have HBT := Lib.hid hBt
              have HOFF := Lib.hid hoff
              clear hBt hoff
              obtain ⟨V4, rfl⟩ : ∃ V4, V4 = wr := ⟨_, rfl⟩
              go_wp2_with (at_make; refine wpList_make_full _ rfl _ _ 39 rfl V4.heap.size 4 i4 (.bool false) 1 Try.underlying39 JI.out JZ0.out JZ1.out .i64 .i64 _ _ k rfl rfl rfl rfl (by rw [JZ2.out]; omega) (by unfold maxLen; omega) (Nat.le_refl _) ?_; intro w8 hown8 hgrow8)
              have hM8 : Below V4.heap.size V4 w8 := (Below.refl _ _).grown hgrow8 (Nat.le_refl _) (by intro q hq; cases hq)
              clear hgrow8
              have h65 : k ≤ 65536 := by omega
              obtain ⟨key, hkey⟩ : ∃ key, key = (b : Int) * 65536 + (t : Int) := ⟨_, rfl⟩
              rw [toList_madeCells_one', ← marks_zero (M.plcs s 2 (a : Int) key k) k] at hown8
              obtain ⟨g8, hg8⟩ : ∃ g8, g8 = V4.heap.size := ⟨_, rfl⟩
              rw [← hg8] at hown8 ⊢
              have HG8 := Lib.hid hg8
              clear hg8
              go_loopw [13, 83] (fun _ i W => ∃ j : Nat, j ≤ k ∧ i = .int .i64 (j : Int) ∧ W.ownsRow g8 4 1 (.slice (some ⟨g8, 0, none⟩) k k) k ((marks (M.plcs s 2 (a : Int) key k) j k).map Value.bool) ∧ Below V4.heap.size V4 W) (fun _ i _ => k - (intOf i).toNat)
              case atStart => exact ⟨0, Nat.zero_le _, rfl, hown8, hM8⟩
              case round =>
                obtain ⟨x, hj, rfl, hownx, hMx⟩ := hrel
                clear hown8 hM8
                by_cases hjk : x < k
                · have hX := M.plc_lt s 2 (a : Int) key h65 hjk
                  have hnx := plcs_nth s 2 (a : Int) key k x hjk
                  have hinj := plcs_inj s 2 (a : Int) key k x h65 hjk
                  have hcell := HL2.out (off + x) (by omega)
                  have hval : nth (M.allTo s a b k m) (off + x) = 1000 + ((M.plc s 2 (a : Int) key k x : Nat) : Int) := by
                    rw [HOFF.out, M.allTo_nth hjk (by have := HOFF.out; omega), hkey]
                  rw [hval] at hcell
                  obtain ⟨X, hXX⟩ : ∃ X, X = M.plc s 2 (a : Int) key k x := ⟨_, rfl⟩
                  rw [← hXX] at hX hnx hcell
                  have dX := hownx.cellAt X (by omega)
                  rw [map_bool_get (marks_new _ x k X hX hnx hinj)] at dX
                  have fX := hownx.frozenAt X
                  have h5' := (hownx.stored X (.bool true)).1
                  rw [← List.map_set, marks_step _ x k X hX hnx] at h5'
                  have h6' := hMx.setCell (p := ⟨g8, X, none⟩) (by rw [HG8.out]; exact Nat.le_refl _) (.bool true)
                  have hc4 := (HBT.out.cell (World.block_lt_of_cell? _ _ hcell)).trans hcell
                  have hcx := (hMx.cell (World.block_lt_of_cell? _ _ hc4)).trans hc4
                  obtain ⟨y, hy⟩ : ∃ y, y = 1000 + (X : Int) := ⟨_, rfl⟩
                  rw [← hy] at hcx
                  have q1 : decide (y < 1000) = false := decide_eq_false (by omega)
                  have q2 : decide (1000 + (k : Int) ≤ y) = false := decide_eq_false (by omega)
                  have q3 : y - 1000 = (X : Int) := by omega
                  have q4 : decide ((X : Int) < 0) = false := decide_eq_false (by omega)
                  have q5 : decide ((k : Int) ≤ (X : Int)) = false := decide_eq_false (by omega)
                  have H5' := Lib.hid h5'
                  have H6' := Lib.hid h6'
                  clear hcell hval hc4 h5' h6' hinj hnx hownx hMx hXX hy
                  go_wp2_with fail
                  go_roundw
                  case rel => exact ⟨x + 1, by omega, by go_num, H5'.out, H6'.out⟩
                  case measure => simp [intOf]; omega
                · have HMX := Lib.hid hMx
                  clear hownx hMx
                  have hoff2 : off + k = (t + 1) * k := by rw [HOFF.out, Nat.succ_mul]
                  have HOFF2 := Lib.hid hoff2
                  clear hoff2
                  have hB9 : Below V3.heap.size V3 wr := HBT.out.trans (HMX.out.mono hbsz)
                  have HB9 := Lib.hid hB9
                  clear hB9
                  by_cases hcp : k < cp
                  · have z1 : ¬ cp = k := by omega
                    have z2 : ¬ k = cp := by omega
                    have z3 : ¬ cp - k = 0 := by omega
                    have z4 : ¬ cp ≤ k := by omega
                    go_wp2_with fail
                    exact ⟨⟨t + 1, off + k, r - k, cp - k, ⟨ga, off + k, none⟩, HOFF2.out, by omega, rfl, by omega, fun _ => rfl, HB9.out⟩, by simp [lenOf]; omega⟩
                  · obtain rfl : cp = k := by omega
                    obtain rfl : r = cp := by omega
                    go_wp2_with fail
                    exact ⟨⟨t + 1, off + r, 0, 0, ⟨ga, off, none⟩, HOFF2.out, by omega, rfl, by omega, fun h => absurd h (by omega), HB9.out⟩, by simp [lenOf]; omega⟩
            · have e2 : decide ((k : Int) ≤ (r : Int)) = false := decide_eq_false (by omega)
              have HBT := Lib.hid hBt
              clear hBt
              go_wp2_with fail
              go_ret
              exact ⟨rfl, ((Below.refl _ _).alloc (Nat.le_refl _) _).trans ((after_call hB1 hs1 (HB3.out.trans (HBT.out.mono (HB3.out.size)))).mono (by omega))⟩

theorem DataPasses_row (s a b c d n : Int) (w : World) (hs : (Lit.int .u64 s).wf = true) (ha : (Lit.int .i64 a).wf = true) (hb : (Lit.int .i64 b).wf = true) (hc : (Lit.int .i64 c).wf = true) (hd : (Lit.int .i64 d).wf = true) (hn : (Lit.int .i64 n).wf = true) :
    Calls Try.prog 12 #[.agg #[.int .u64 s, .int .i64 a, .int .i64 b, .int .i64 c, .int .i64 d], .int .i64 n] w fun e w' => e = .returned (.bool true) ∧ Below w.heap.size w w' := by
  obtain ⟨q, rfl, _⟩ := nat_of_u64 hs
  by_cases h1 : n < 1
  · exact DataPasses_low q a b c d n w h1
  by_cases h2 : 60 < n
  · exact DataPasses_high q a b c d n w h1 h2
  by_cases h3 : (0 ≤ a ∧ a < 64 ∧ 0 ≤ b ∧ b ≤ 256 ∧ 0 ≤ (0 : Int) ∧ (0 : Int) < 64 ∧ 1 ≤ d ∧ d ≤ 64 ∧ 1 ≤ n ∧ n ≤ 4096)
  · obtain ⟨a', rfl⟩ : ∃ m : Nat, a = m := ⟨a.toNat, by omega⟩
    obtain ⟨b', rfl⟩ : ∃ m : Nat, b = m := ⟨b.toNat, by omega⟩
    obtain ⟨d', rfl⟩ : ∃ m : Nat, d = m := ⟨d.toNat, by omega⟩
    obtain ⟨n', rfl⟩ : ∃ m : Nat, n = m := ⟨n.toNat, by omega⟩
    exact DataPasses_yes q a' b' d' n' c w (by omega) (by omega) (by omega) (by omega) (by omega) (by omega)
  · exact DataPasses_not q a b c d n w h1 h2 h3
end Go.Proofs.Ytcojiienmmmihaa
