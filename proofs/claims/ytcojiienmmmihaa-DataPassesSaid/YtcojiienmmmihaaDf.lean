/- Walks: the reference's Own and Right of layer 6. -/
import Derived.Test.YtcojiienmmmihaaDe
import Derived.Test.YtcojiienmmmihaaW
import Derived.Test.YtcojiienmmmihaaO
namespace Go.Proofs.Ytcojiienmmmihaa
open Go.RowKit Go.Joins Go.Shelf
set_option maxRecDepth 100000
set_option linter.unusedVariables false

/-- The table of who stands at a place, filled up to k. -/
noncomputable def M.atTo (s n k : Nat) : List Int := (List.range n).map fun j => if M.bck s 1 0 0 n j < k then ((M.bck s 1 0 0 n j : Nat) : Int) else 0
theorem M.atTo_length (s n k : Nat) : (M.atTo s n k).length = n := by simp [M.atTo]
theorem M.atTo_zero (s n : Nat) : M.atTo s n 0 = List.replicate n 0 := by
  rw [List.eq_replicate_iff]
  refine ⟨M.atTo_length _ _ _, fun b hb => ?_⟩
  simp [M.atTo] at hb
  exact hb.2.symm
theorem M.atTo_step {s n k : Nat} (h1 : n ≤ 65536) (hk : k < n) : (M.atTo s n k).set (M.plc s 1 0 0 n k) (k : Int) = M.atTo s n (k + 1) := by
  apply List.ext_getElem (by simp [M.atTo_length])
  intro j hj hj2
  have hjn : j < n := by simpa [M.atTo_length] using hj2
  have hpb := M.plc_bck s 1 0 0 h1 hjn
  have hbp := M.bck_plc s 1 0 0 h1 hk
  rw [List.getElem_set]
  by_cases e : M.plc s 1 0 0 n k = j
  · rw [if_pos e]
    have : M.bck s 1 0 0 n j = k := by rw [← e]; exact hbp
    simp [M.atTo, this]
  · rw [if_neg e]
    have hne : M.bck s 1 0 0 n j ≠ k := fun e2 => e (by rw [← e2]; exact hpb)
    simp only [M.atTo, List.getElem_map, List.getElem_range]
    by_cases h : M.bck s 1 0 0 n j < k
    · rw [if_pos h, if_pos (by omega)]
    · rw [if_neg h, if_neg (by omega)]
theorem M.atTo_full {s n j : Nat} (h1 : n ≤ 65536) (hj : j < n) : nth (M.atTo s n n) j = ((M.bck s 1 0 0 n j : Nat) : Int) := by
  have := M.bck_lt s 1 0 0 h1 hj
  simp [nth, M.atTo, List.getD, hj, this]
theorem toList_madeInts (n : Nat) : (madeCells (Value.int .i64 0).cells (n * 1)).toList = (List.replicate n (0 : Int)).map (Value.int .i64) := by
  rw [Nat.mul_one, List.map_replicate]; exact toList_madeCells_one _ n

set_option maxHeartbeats 4000000 in
theorem rOwn_yes (s workers worker n : Nat) (w : World) (h0 : 1 ≤ workers) (h1 : workers ≤ 64) (h2 : workers ≤ n) (h3 : n ≤ 4096) (h4 : worker < workers) :
    Calls Try.prog 34 #[.int .u64 (s : Int), .int .i64 (workers : Int), .int .i64 (worker : Int), .int .i64 (n : Int)] w fun e w' => ∃ v, e = .returned v ∧ Reads w' v (M.own s workers n worker) ∧ Below w.heap.size w w' := by
  obtain ⟨i0, hi, hz0, hz1, hz2⟩ := info_parts Try.info3
  have HZ0 := Lib.hid hz0; have HZ1 := Lib.hid hz1; have HZ2 := Lib.hid hz2; have HI := Lib.hid hi
  clear hz0 hz1 hz2 hi
  go_enter Try.func34, Try.ntmps34
  go_wp2_with (at_make; refine wpList_make_full _ rfl _ _ 34 rfl (w.heap.size + 1) 3 i0 (.int .i64 0) 1 Try.underlying34 HI.out HZ0.out HZ1.out .i64 .i64 _ _ n rfl rfl rfl rfl (by rw [HZ2.out]; omega) (by unfold maxLen; omega) (by simp) ?_; intro w0 hown0 hgrow0)
  have hB0 : Below (w.heap.size + 1) (w.alloc (Obj.cells #[.int .u64 (s : Int), .int .i64 1, .int .i64 0, .int .i64 0] 28)) w0 := (Below.refl _ _).grown hgrow0 (by simp) (by intro k h; cases h)
  clear hgrow0
  rw [toList_madeInts, ← M.atTo_zero s n] at hown0
  rw [World.size_alloc] at hown0
  obtain ⟨g, hg⟩ : ∃ g, g = w.heap.size + 1 := ⟨_, rfl⟩
  rw [← hg] at hown0 ⊢
  have HG := Lib.hid hg
  clear hg
  have HSTEP := Lib.hid (fun k (hk : k < n) => M.atTo_step (s := s) (by omega : n ≤ 65536) hk)
  have HPLT := Lib.hid (fun k (hk : k < n) => M.plc_lt s 1 0 0 (by omega : n ≤ 65536) hk)
  go_loopw [11] (fun i wr => ∃ k : Nat, k ≤ n ∧ i = .int .i64 k ∧ wr.ownsRow g 3 1 (.slice (some ⟨g, 0, none⟩) n n) n ((M.atTo s n k).map (Value.int .i64)) ∧ Below (w.heap.size + 1) (w.alloc (Obj.cells #[.int .u64 (s : Int), .int .i64 1, .int .i64 0, .int .i64 0] 28)) wr) (fun i _ => n - (intOf i).toNat)
  case atStart => exact ⟨0, Nat.zero_le _, rfl, hown0, hB0⟩
  case round =>
    obtain ⟨k, hk, rfl, hown, hB⟩ := hrel
    clear hown0 hB0
    by_cases hlt : k < n
    · obtain ⟨k0, k1, k2, k3⟩ := key_cells hB
      have HB := Lib.hid hB
      have HO := Lib.hid hown
      clear hB hown
      go_wp2_with fail
      refine (rPlace_any s 1 0 0 n k _ (by omega) hlt).mono ?_
      rintro e w4 ⟨rfl, hb4⟩
      have hown4 := owns_below HO.out hb4
      have hM4 : Below (w.heap.size + 1) (w.alloc (Obj.cells #[.int .u64 (s : Int), .int .i64 1, .int .i64 0, .int .i64 0] 28)) w4 := HB.out.trans (hb4.mono (by have := HB.out.size; simp at this; omega))
      clear hb4 HB HO k0 k1 k2 k3
      have hX := HPLT.out k hlt
      have hst := HSTEP.out k hlt
      obtain ⟨X, hXe⟩ : ∃ X, X = M.plc s 1 0 0 n k := ⟨_, rfl⟩
      rw [← hXe] at hX hst ⊢
      clear hXe
      have dX := hown4.cellAt X (by omega)
      rw [show ((M.atTo s n k).map (Value.int .i64))[X]? = some (.int .i64 (nth (M.atTo s n k) X)) from by simp [nth, List.getD_eq_getElem?_getD, M.atTo_length, hX]] at dX
      obtain ⟨old, hold⟩ : ∃ old, old = nth (M.atTo s n k) X := ⟨_, rfl⟩
      rw [← hold] at dX
      clear hold
      have fX := hown4.frozenAt X
      have h5 := (hown4.stored X (.int .i64 (k : Int))).1
      rw [← List.map_set, hst] at h5
      have h6 := hM4.setCell (p := ⟨g, X, none⟩) (by rw [HG.out]; exact Nat.le_refl _) (.int .i64 (k : Int))
      have H5 := Lib.hid h5
      have H6 := Lib.hid h6
      clear h5 h6 hown4 hM4 hst
      go_wp2_with fail
      go_roundw
      case rel => exact ⟨k + 1, by omega, by go_num, H5.out, H6.out⟩
      case measure => simp [intOf]; omega
    · obtain rfl : k = n := by omega
      clear hlt hk HSTEP HPLT HG
      obtain ⟨V, rfl⟩ : ∃ V, V = wr := ⟨_, rfl⟩
      have hgl : g < V.heap.size := (hown.lt g (by simp [Value.ownBlock])).2
      have hcell : ∀ j, j < k → V.cell? ⟨g, j, none⟩ = some (.int .i64 ((M.bck s 1 0 0 k j : Nat) : Int)) := fun j hj => by
        have h5 := hown.cellAt j (by omega)
        rw [h5]
        have h7 := M.atTo_full (s := s) (by omega : k ≤ 65536) hj
        simp [nth, List.getD_eq_getElem?_getD, M.atTo_length, hj] at h7
        simp [M.atTo_length, hj, h7]
      have HC := Lib.hid hcell
      have hbwr : Below w.heap.size w V := ((Below.refl _ _).alloc (Nat.le_refl _) _).trans (hB.mono (by omega))
      clear hcell hown hB
      have HBW := Lib.hid hbwr
      clear hbwr
      have hble := M.beg_le (n := k) h0 (show worker ≤ workers by omega)
      have hele := M.beg_le (n := k) h0 (show worker + 1 ≤ workers by omega)
      have hbe := M.beg_mono (workers := workers) (n := k) (worker := worker)
      have HOWN := Lib.hid (show M.own s workers k worker = M.ownK s workers k worker (M.beg workers k (worker + 1) - M.beg workers k worker) from rfl)
      have HSTEP := Lib.hid (fun j => M.ownK_succ s workers k worker j)
      obtain ⟨pw, hpw⟩ : ∃ pw, pw = worker * k := ⟨_, rfl⟩
      obtain ⟨pe, hpe⟩ : ∃ pe, pe = (worker + 1) * k := ⟨_, rfl⟩
      have bw : pw ≤ 64 * 4096 := by rw [hpw]; exact Nat.mul_le_mul (by omega) h3
      have be : pe ≤ 64 * 4096 := by rw [hpe]; exact Nat.mul_le_mul (by omega) h3
      have hm1 : (worker : Int) * (k : Int) = (pw : Int) := by rw [hpw]; exact (Int.natCast_mul worker k).symm
      have hm2 : ((worker : Int) + 1) * (k : Int) = (pe : Int) := by rw [hpe, Int.natCast_mul]; rfl
      have hq1 : (pw : Int) / (workers : Int) = ((M.beg workers k worker : Nat) : Int) := by rw [M.beg, ← hpw]; exact (Int.natCast_ediv pw workers).symm
      have hq2 : (pe : Int) / (workers : Int) = ((M.beg workers k (worker + 1) : Nat) : Int) := by rw [M.beg, ← hpe]; exact (Int.natCast_ediv pe workers).symm
      clear hpw hpe
      obtain ⟨b, hb⟩ : ∃ b, b = M.beg workers k worker := ⟨_, rfl⟩
      obtain ⟨e, he⟩ : ∃ e, e = M.beg workers k (worker + 1) := ⟨_, rfl⟩
      rw [← hb, ← he] at HOWN
      rw [← hb] at HSTEP hbe hble hq1
      rw [← he] at hq2 hbe hele
      clear hb he
      go_wp2_with fail
      go_loopw [12, 13] (fun out p W => ∃ q : Nat, q ≤ k ∧ p = .int .i64 (q : Int) ∧ W.ownsRow V.heap.size 3 1 out (min q e - b) ((M.ownK s workers k worker (min q e - b)).map (Value.int .i64)) ∧ Below V.heap.size V W) (fun _ p _ => k - (intOf p).toNat)
      case atStart => exact ⟨0, Nat.zero_le _, rfl, by rw [show min 0 e - b = 0 by omega]; exact World.ownsRow_nil _ _ _ _, Below.refl _ _⟩
      case round =>
        obtain ⟨q, hq, rfl, hown, hB⟩ := hrel
        by_cases hlt : q < k
        · have hB' := Lib.hid hB
          have HO := Lib.hid hown
          by_cases hbq : b ≤ q
          · have d1 : decide ((b : Int) ≤ (q : Int)) = true := decide_eq_true (by omega)
            by_cases heq : q < e
            · have d2 : decide ((q : Int) < (e : Int)) = true := decide_eq_true (by omega)
              have cq := (hB.cell (p := ⟨g, q, none⟩) hgl).trans (HC.out q hlt)
              have e1 : min q e - b = q - b := by omega
              have e2 : min (q + 1) e - b = q - b + 1 := by omega
              rw [e1] at hown
              clear hB
              obtain ⟨x, hx⟩ : ∃ x, x = ((M.bck s 1 0 0 k q : Nat) : Int) := ⟨_, rfl⟩
              rw [← hx] at cq
              have HX := Lib.hid hx
              clear hx
              go_wp2_with (at_builtin; refine wpList_append_own _ rfl (.tmp 52) (.tmp 57) 34 rfl V.heap.size 3 i0 (.int .i64 0) 1 8 Try.underlying34 HI.out HZ0.out HZ1.out HZ2.out rfl (by decide) _ (q - b) _ rfl (hown.alloc _) ⟨wr.heap.size, 0, none⟩ 1 1 [.int .i64 x] rfl rfl (cell_one_new _ _ _) (by intro u hu; simp at hu; subst hu; rfl) (by unfold maxLen; omega) (by omega) (by have := hB'.out.size; simp; omega) ?_; intro v1 w6 hown6 hgrow6 hnil6)
              have hsz := hB'.out.size
              have hB7 := (hB'.out.alloc (by omega) _).grown hgrow6 (by simp; omega) (fun q hq => (hown.lt q hq).1)
              go_roundw
              case rel => exact ⟨q + 1, by omega, by go_num, by rw [e2, HSTEP.out, List.map_append, show b + (q - b) = q by omega, ← HX.out]; exact hown6, hB7⟩
              case measure => simp [intOf]; omega
            · have d2 : decide ((q : Int) < (e : Int)) = false := decide_eq_false (by omega)
              clear hB hown
              go_wp2_with fail
              go_roundw
              case rel => exact ⟨q + 1, by omega, by go_num, by rw [show min (q + 1) e - b = min q e - b by omega]; exact HO.out, hB'.out⟩
              case measure => simp [intOf]; omega
          · have d1 : decide ((b : Int) ≤ (q : Int)) = false := decide_eq_false (by omega)
            clear hB hown
            go_wp2_with fail
            go_roundw
            case rel => exact ⟨q + 1, by omega, by go_num, by rw [show min (q + 1) e - b = min q e - b by omega]; exact HO.out, hB'.out⟩
            case measure => simp [intOf]; omega
        · obtain rfl : q = k := by omega
          have e3 : min q e - b = e - b := by omega
          rw [e3] at hown
          have HO := Lib.hid hown
          have hB' := Lib.hid hB
          clear hB hown
          go_wp2_with fail
          go_ret
          refine ⟨_, rfl, ?_, HBW.out.trans (hB'.out.mono HBW.out.size)⟩
          rw [HOWN.out]
          refine Reads.of_owns (base := V.heap.size) ?_
          rw [show (M.ownK s workers q worker (e - b)).length = e - b by simp [M.ownK]]
          exact HO.out
end Go.Proofs.Ytcojiienmmmihaa
