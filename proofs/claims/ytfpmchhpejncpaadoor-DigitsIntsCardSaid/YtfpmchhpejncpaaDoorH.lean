/- Digits: the part behind the point, doubled in place. -/
import Derived.Test.YtfpmchhpejncpaaDoorP
namespace Go.Proofs.YtfpmchhpejncpaaDoor
open Go.RowKit
set_option maxRecDepth 100000
set_option linter.unusedVariables false

def cellsD (D : List Nat) : Array Value := (D.map fun d : Nat => Value.int .u8 (d : Int)).toArray
def partObj (D : List Nat) : Obj := .cells (cellsD D) 55 (0, 0)
/-- The list whose last places from k on are doubled. -/
def mid (D : List Nat) (k : Nat) : List Nat := D.take k ++ (dbl (D.drop k)).1
theorem mid_zero (D : List Nat) : mid D 0 = (dbl D).1 := by simp [mid]
theorem mid_full {D : List Nat} {n : Nat} (h : D.length = n) : mid D n = D := by simp [mid, ← h, dbl]
theorem mid_len (D : List Nat) (k : Nat) : (mid D k).length = D.length := by
  simp [mid, dbl_len, List.length_take]; omega
theorem drop_at {D : List Nat} {k : Nat} (h : k < D.length) : D.drop k = D[k] :: D.drop (k + 1) := List.drop_eq_getElem_cons h
theorem dbl_at {D : List Nat} {k : Nat} (h : k < D.length) : dbl (D.drop k) = ((2 * D[k] + (dbl (D.drop (k + 1))).2) % 10 :: (dbl (D.drop (k + 1))).1, (2 * D[k] + (dbl (D.drop (k + 1))).2) / 10) := by
  rw [drop_at h]; rfl
theorem mid_get {D : List Nat} {k : Nat} (h : k < D.length) : (mid D (k + 1))[k]? = some D[k] := by
  unfold mid
  rw [List.getElem?_append_left (by rw [List.length_take]; omega), List.getElem?_take, if_pos (by omega), List.getElem?_eq_getElem h]
theorem mid_set {D : List Nat} {k : Nat} (h : k < D.length) : (mid D (k + 1)).set k ((2 * D[k] + (dbl (D.drop (k + 1))).2) % 10) = mid D k := by
  unfold mid
  rw [dbl_at h]
  have e : D.take (k + 1) = D.take k ++ [D[k]] := List.take_succ_eq_append_getElem h
  have hl : (D.take k).length = k := by rw [List.length_take]; omega
  rw [e, List.append_assoc, List.set_append_right _ _ (by omega), hl, Nat.sub_self]
  rfl
theorem cells_at {w : World} {b : Nat} {D : List Nat} (h : w.heap[b]? = some (partObj D)) {k d : Nat} (hd : D[k]? = some d) : w.cell? ⟨b, k, none⟩ = some (.int .u8 (d : Int)) := by
  simp [World.cell?, h, partObj, cellsD, hd]
theorem cells_fz {w : World} {b : Nat} {D : List Nat} (h : w.heap[b]? = some (partObj D)) (k : Nat) : w.frozen? ⟨b, k, none⟩ = false := by
  simp [World.frozen?, h, partObj]
theorem cells_set {w : World} {b : Nat} {D : List Nat} (h : w.heap[b]? = some (partObj D)) (k d : Nat) : (w.setCell ⟨b, k, none⟩ (.int .u8 (d : Int))).heap[b]? = some (partObj (D.set k d)) := by
  rw [heap_setCell_same w b k _ _ _ h]
  unfold partObj cellsD
  congr 2
  simp [List.map_set]
theorem grown_set (w : World) (a : Addr) (v : Value) : w.grownBy (w.setCell a v) (some a.block) := ⟨rfl, rfl, rfl, by simp [World.setCell], fun k _ hk => heap_setCell_other w a k v (fun e => hk (by rw [e]))⟩
theorem size_set (w : World) (a : Addr) (v : Value) : (w.setCell a v).heap.size = w.heap.size := by simp [World.setCell]
set_option maxHeartbeats 4000000 in
theorem twice_any (b : Nat) (D : List Nat) (hD : D.length = 40) (hd : Dg D) (w : World) (hb : w.heap[b]? = some (partObj D)) :
    Calls Tryd.prog 40 #[.pointer (some ⟨b, 0, none⟩)] w fun e w' => e = .returned (.int .i64 ((dbl D).2 : Int)) ∧ w'.heap[b]? = some (partObj (dbl D).1) ∧ w.grownBy w' (some b) ∧ w'.heap.size = w.heap.size := by
  have HB := Lib.hid hb; have HD := Lib.hid hD; have HG := Lib.hid hd
  clear hb hD hd
  go_enter Tryd.func40, Tryd.ntmps40
  go_wp2_with fail
  go_loopw [3, 4, 5, 6, 7] (fun c _ _ _ i wr => ∃ k : Nat, k ≤ 40 ∧ i = .int .i64 ((40 - k : Nat) : Int) ∧ c = .int .u8 ((dbl (D.drop k)).2 : Int) ∧ wr.heap[b]? = some (partObj (mid D k)) ∧ w.grownBy wr (some b) ∧ wr.heap.size = w.heap.size) (fun _ _ _ _ i _ => 40 - (intOf i).toNat)
  case atStart => exact ⟨40, Nat.le_refl _, rfl, by rw [List.drop_of_length_le (by rw [HD.out]; omega)]; rfl, by rw [mid_full HD.out]; exact HB.out, World.grownBy.refl _ _, rfl⟩
  case round =>
    obtain ⟨k, hk, rfl, rfl, hbw, hgr, hsz⟩ := hrel
    have HGR := Lib.hid hgr; have HSZ := Lib.hid hsz; have HBW := Lib.hid hbw
    clear hgr hsz hbw
    cases k with
    | zero =>
      have e0 : ((40 - 0 : Nat) : Int) = 40 := rfl
      obtain ⟨c, hc⟩ : ∃ c, c = (dbl (D.drop 0)).2 := ⟨_, rfl⟩
      have hc1 : c ≤ 1 := by rw [hc]; exact dbl_carry (by rw [List.drop_zero]; exact HG.out)
      have HC := Lib.hid hc
      rw [← hc]
      clear hc
      go_wp2_with fail
      go_ret
      refine ⟨by rw [HC.out, List.drop_zero]; rfl, ?_, HGR.out, HSZ.out⟩
      have := HBW.out
      rw [mid_zero] at this
      exact this
    | succ k =>
      have hkl : k < D.length := by rw [HD.out]; omega
      have HCE := Lib.hid (cells_at HBW.out (mid_get hkl))
      have HFZ := Lib.hid (cells_fz HBW.out k)
      have HSET := Lib.hid (fun d => cells_set HBW.out k d)
      have HMS := Lib.hid (mid_set hkl); have HDA := Lib.hid (dbl_at hkl)
      obtain ⟨x, hx⟩ : ∃ x, x = D[k] := ⟨_, rfl⟩
      obtain ⟨c, hc⟩ : ∃ c, c = (dbl (D.drop (k + 1))).2 := ⟨_, rfl⟩
      have hx10 : x < 10 := by rw [hx]; exact HG.out _ (List.getElem_mem _)
      have hc1 : c ≤ 1 := by rw [hc]; exact dbl_carry (fun d hd => HG.out d (List.mem_of_mem_drop hd))
      rw [← hx] at HCE HMS HDA
      rw [← hc] at HMS HDA ⊢
      obtain ⟨i, hi⟩ : ∃ i, i = 40 - (k + 1) := ⟨_, rfl⟩
      rw [← hi]
      have hik : (39 : Int) - (i : Int) = (k : Int) := by omega
      have hi2 : i + k = 39 := by omega
      have HIK := Lib.hid hi2
      obtain ⟨q, hq⟩ : ∃ q, q = (2 * x + c) % 10 := ⟨_, rfl⟩
      obtain ⟨r, hr⟩ : ∃ r, r = (2 * x + c) / 10 := ⟨_, rfl⟩
      rw [← hq, ← hr] at HDA
      rw [← hq] at HMS
      have t1 : (2 * (x : Int) + (c : Int)) % 10 = (q : Int) := by omega
      have HT2 : Hid ((2 * (x : Int) + (c : Int)) / 10 = (r : Int)) := Lib.hid (by omega)
      have cx := HCE.out; have fx := HFZ.out
      clear hx hc hi hq hr hi2
      go_wp2_with fail
      go_roundw
      case rel =>
        refine ⟨k, by omega, ?_, ?_, ?_, HGR.out.trans (grown_set _ _ _), (size_set _ _ _).trans HSZ.out⟩
        · have := HIK.out; exact congrArg _ (by omega)
        · rw [HDA.out]; exact congrArg (Value.int .u8) HT2.out
        · have := HSET.out q; rw [HMS.out] at this; exact this
      case measure => simp [intOf]; have := HIK.out; omega
end Go.Proofs.YtfpmchhpejncpaaDoor
