/- Digits: Take, Parse. -/
import Derived.Test.YtfpmchhpejncpaaDoorQ0
import Derived.Lib.RabinKarpLaws
namespace Go.Proofs.YtfpmchhpejncpaaDoor
open Go.RowKit
set_option maxRecDepth 100000
set_option linter.unusedVariables false
set_option maxHeartbeats 4000000 in
theorem Take_any (B : Nat) (a c : Int) (over : Bool) (hc : 0 ≤ c ∧ c < 1000) (w : World) (h1 : w.cell? ⟨B, 0, none⟩ = some (.int .i64 c)) (h2 : w.frozen? ⟨B, 0, none⟩ = false) :
    Calls Tryd.prog 31 #[.pointer (some ⟨B, 0, none⟩), .int .i64 a, .bool over] w fun e w' => e = .returned (.int .i64 a) ∧ (w' = w ∨ ∃ v, w' = w.setCell ⟨B, 0, none⟩ v) := by
  have hc1 := hc.1
  have hc2 := hc.2
  cases over with
  | true =>
    go_enter Tryd.func31, Tryd.ntmps31
    go_wp2_with fail
    go_ret
    exact ⟨rfl, .inr ⟨_, rfl⟩⟩
  | false =>
    go_enter Tryd.func31, Tryd.ntmps31
    go_wp2_with fail
    go_ret
    exact ⟨rfl, .inl rfl⟩
theorem and_oneK (i : Nat) (h : i < 4294967296) : bits BinOp.and IntKind.i64 (i : Int) 1 = ((i % 2 : Nat) : Int) := and_one i (by omega)
set_option maxHeartbeats 32000000 in
theorem Parse_none (s : ByteArray) (hs : s.size ≤ 100000) (hp : partsL s.data.toList = none) (w : World) : Calls Tryd.prog 13 #[.string s] w fun e w' => e = .returned (parseT s.data.toList) ∧ Below w.heap.size w w' := by
  have HP := Lib.hid (apart_any s hs w)
  have HR : Hid (parseT s.data.toList = .tuple #[.int .i64 0, .bool false, .int .i64 30]) := Lib.hid (by unfold parseT; rw [hp])
  rw [hp] at HP
  clear hp
  go_enter Tryd.func13, Tryd.ntmps13
  go_wp2_with fail
  refine HP.out.mono ?_
  rintro e w1 ⟨hb, bl, ok, A, B, rfl, rfl⟩
  have HB := Lib.hid hb
  clear hb
  go_wp2_with fail
  exact bodyPost_ret (v := .tuple #[.int .i64 0, .bool false, .int .i64 30]) (by simp [results, Tryd.results13, go_sem]) rfl ⟨by rw [HR.out], HB.out.alloc HB.out.size _⟩
theorem cell51 {w : World} {P : Nat} {v0 v1 v2 : Value} (h : w.heap[P]? = some (.cells #[v0, v1, v2] 51)) (j : Nat) (hj : j < 3) : w.cell? ⟨P, j, none⟩ = #[v0, v1, v2][j]? := cell_of_row w P j _ _ _ h
theorem fill_get (BL : List UInt8) (k : Nat) (h : k ≤ BL.length) (h40 : k < 40) : (digs (BL.take k) ++ List.replicate (40 - k) 0)[k]? = some 0 := by
  have hl : (digs (BL.take k)).length = k := by rw [digs, List.length_map, List.length_take]; omega
  rw [List.getElem?_append_right (by omega), hl, Nat.sub_self, List.getElem?_replicate, if_pos (by omega)]
theorem fill_step (BL : List UInt8) (k : Nat) (h40 : k < 40) {c : UInt8} (h : BL[k]? = some c) : (digs (BL.take k) ++ List.replicate (40 - k) 0).set k (c.toNat - 48) = digs (BL.take (k + 1)) ++ List.replicate (40 - (k + 1)) 0 := by
  have hlt := (List.getElem?_eq_some_iff.1 h).1
  have hl : (digs (BL.take k)).length = k := by rw [digs, List.length_map, List.length_take]; omega
  rw [digs_step h, List.set_append_right _ _ (by omega), hl, Nat.sub_self, List.append_assoc]
  obtain ⟨m, hm⟩ : ∃ m, 40 - k = m + 1 := ⟨40 - k - 1, by omega⟩
  rw [hm, show 40 - (k + 1) = m by omega]
  rfl
theorem fill_full (BL : List UInt8) (h : BL.length ≤ 40) : digs (BL.take BL.length) ++ List.replicate (40 - BL.length) 0 = fillD BL := by rw [List.take_length]; rfl
theorem fill_len (BL : List UInt8) (h : BL.length ≤ 40) : (fillD BL).length = 40 := by
  unfold fillD digs
  rw [List.length_append, List.length_map, List.length_replicate]; omega
theorem fill_dg {BL : List UInt8} (h : ∀ b ∈ BL, isDig b = true) : Dg (fillD BL) := by
  intro d hd
  rcases List.mem_append.1 hd with h1 | h1
  · exact digs_dg h d h1
  · have := (List.mem_replicate.1 h1).2; omega
/-- A block kept through calls. -/
def Hold (n P : Nat) (o : Obj) (w wi : World) : Prop := Below n w wi ∧ wi.heap[P]? = some o ∧ P < wi.heap.size
theorem Hold.step {n P : Nat} {o : Obj} {w wi wj : World} (h : Hold n P o w wi) (hn : n ≤ wi.heap.size) (hb : Below wi.heap.size wi wj) : Hold n P o w wj :=
  ⟨h.1.trans (hb.mono hn), by rw [hb.block P h.2.2]; exact h.2.1, Nat.lt_of_lt_of_le h.2.2 hb.size⟩
theorem Hold.set {n P : Nat} {o : Obj} {w wi : World} (h : Hold n P o w wi) {Q : Nat} (hq : P ≠ Q) (hn : n ≤ Q) (j : Nat) (v : Value) : Hold n P o w (wi.setCell ⟨Q, j, none⟩ v) :=
  ⟨h.1.setCell hn _, by rw [heap_setCell_other _ _ _ _ hq]; exact h.2.1, by rw [size_set]; exact h.2.2⟩
theorem q_set {W : World} {Q : Nat} {a b x y : Value} (h : W.heap[Q]? = some (.cells #[a, b] 58)) : ((W.setCell ⟨Q, 0, none⟩ x).setCell ⟨Q, 1, none⟩ y).heap[Q]? = some (.cells #[x, y] 58) := by
  have h1 := heap_setCell_same W Q 0 _ _ x h
  exact heap_setCell_same _ Q 1 _ _ y h1
theorem q_cells {W : World} {Q : Nat} {a b : Value} (h : W.heap[Q]? = some (.cells #[a, b] 58)) : W.cell? ⟨Q, 0, none⟩ = some a ∧ W.cell? ⟨Q, 1, none⟩ = some b ∧ W.frozen? ⟨Q, 0, none⟩ = false ∧ W.frozen? ⟨Q, 1, none⟩ = false :=
  ⟨cell_of_row W Q 0 _ _ _ h, cell_of_row W Q 1 _ _ _ h, frozen_of_row W Q 0 _ _ h, frozen_of_row W Q 1 _ _ h⟩
theorem lt_of_some {W : World} {Q : Nat} {o : Obj} (h : W.heap[Q]? = some o) : Q < W.heap.size := (Array.getElem?_eq_some_iff.1 h).1
theorem kept {W W' : World} {Q : Nat} {o : Obj} (hb : Below W.heap.size W W') (h : W.heap[Q]? = some o) : W'.heap[Q]? = some o := by
  rw [hb.block Q (lt_of_some h)]; exact h
set_option maxHeartbeats 32000000 in
theorem Parse_some (s : ByteArray) (hs : s.size ≤ 100000) (below : Bool) (AL BL : List UInt8) (hp : partsL s.data.toList = some (below, AL, BL)) (w : World) : Calls Tryd.prog 13 #[.string s] w fun e w' => e = .returned (parseT s.data.toList) ∧ Below w.heap.size w w' := by
  have HP := Lib.hid (apart_any s hs w)
  obtain ⟨hda, hdb⟩ := partsL_dig hp
  have HR := Lib.hid (show parseT s.data.toList = _ from by unfold parseT; rw [hp])
  rw [hp] at HP
  go_enter Tryd.func13, Tryd.ntmps13
  go_wp2_with fail
  refine HP.out.mono ?_
  rintro e w1 ⟨hb, bl, ok, A, B, rfl, rfl, rfl, hA, hB⟩
  have HB := Lib.hid hb
  have hAl := lsize A
  have hBl := lsize B
  rw [hA] at hAl
  rw [hB] at hBl
  clear hb hp HP
  by_cases h20 : 20 < A.size
  · rw [if_pos (Or.inl (by omega))] at HR
    have d1 : decide ((A.size : Int) > 20) = true := decide_eq_true (by omega)
    have d2 : decide (20 < (A.size : Int)) = true := decide_eq_true (by omega)
    go_wp2_with fail
    exact bodyPost_ret (v := .tuple #[.int .i64 0, .bool false, .int .i64 31]) (by simp [results, Tryd.results13, go_sem]) rfl ⟨by rw [HR.out], HB.out.alloc HB.out.size _⟩
  · have d1 : decide (20 < (A.size : Int)) = false := decide_eq_false (by omega)
    by_cases h40 : 40 < B.size
    · rw [if_pos (Or.inr (by omega))] at HR
      have d2 : decide (40 < (B.size : Int)) = true := decide_eq_true (by omega)
      go_wp2_with fail
      exact bodyPost_ret (v := .tuple #[.int .i64 0, .bool false, .int .i64 31]) (by simp [results, Tryd.results13, go_sem]) rfl ⟨by rw [HR.out], HB.out.alloc HB.out.size _⟩
    · rw [if_neg (by omega)] at HR
      have d2 : decide (40 < (B.size : Int)) = false := decide_eq_false (by omega)
      go_upto_region 7 with fail
      have hz : (Obj.cells #[Value.int IntKind.u8 0, Value.int IntKind.u8 0, Value.int IntKind.u8 0, Value.int IntKind.u8 0, Value.int IntKind.u8 0, Value.int IntKind.u8 0, Value.int IntKind.u8 0, Value.int IntKind.u8 0, Value.int IntKind.u8 0, Value.int IntKind.u8 0, Value.int IntKind.u8 0, Value.int IntKind.u8 0, Value.int IntKind.u8 0, Value.int IntKind.u8 0, Value.int IntKind.u8 0, Value.int IntKind.u8 0, Value.int IntKind.u8 0, Value.int IntKind.u8 0, Value.int IntKind.u8 0, Value.int IntKind.u8 0, Value.int IntKind.u8 0, Value.int IntKind.u8 0, Value.int IntKind.u8 0, Value.int IntKind.u8 0, Value.int IntKind.u8 0, Value.int IntKind.u8 0, Value.int IntKind.u8 0, Value.int IntKind.u8 0, Value.int IntKind.u8 0, Value.int IntKind.u8 0, Value.int IntKind.u8 0, Value.int IntKind.u8 0, Value.int IntKind.u8 0, Value.int IntKind.u8 0, Value.int IntKind.u8 0, Value.int IntKind.u8 0, Value.int IntKind.u8 0, Value.int IntKind.u8 0, Value.int IntKind.u8 0, Value.int IntKind.u8 0] 55) = partObj (List.replicate 40 0) := rfl
      rw [hz]
      clear hz
      obtain ⟨P, hP⟩ : ∃ P, P = w1.heap.size := ⟨_, rfl⟩
      obtain ⟨W0, hW0⟩ : ∃ W0, W0 = (w1.alloc (.cells #[.bool bl, .string A, .string B] 51)).alloc (partObj (List.replicate 40 0)) := ⟨_, rfl⟩
      have HP0 : Hid (W0.heap[P]? = some (.cells #[.bool bl, .string A, .string B] 51)) := Lib.hid (by rw [hW0, hP]; exact heap_alloc2_old _ _ _)
      have HX0 : Hid (W0.heap[P + 1]? = some (partObj (List.replicate 40 0))) := Lib.hid (by rw [hW0, hP]; exact heap_alloc2_new _ _ _)
      have HS0 : Hid (W0.heap.size = P + 1 + 1) := Lib.hid (by rw [hW0, hP, World.size_alloc, World.size_alloc])
      have HB0 : Hid (Below w.heap.size w W0) := Lib.hid (by rw [hW0]; exact (HB.out.alloc HB.out.size _).alloc (by have := HB.out.size; simp; omega) _)
      have hwp : w.heap.size ≤ P := by rw [hP]; exact HB.out.size
      rw [← hW0, ← hP]
      clear hW0 hP
      have hB40 : B.size ≤ 40 := by omega
      have hA20 : A.size ≤ 20 := by omega
      have HBD : Hid (∀ k (h : k < B.size), 48 ≤ B[k].toNat ∧ B[k].toNat ≤ 57 ∧ BL[k]? = some B[k]) := Lib.hid (fun k h => by
        have h1 := lget B k h
        rw [hB] at h1
        have h2 := isDig_iff.1 (hdb _ (List.mem_of_getElem? h1))
        exact ⟨h2.1, h2.2, h1⟩)
      have HBL := Lib.hid hBl; have HAL := Lib.hid hAl; have HA := Lib.hid hA; have HDA := Lib.hid hda; have HDB := Lib.hid hdb
      clear hBl hAl hA hB hda hdb d1 d2 h20 h40
      have c20 : W0.cell? ⟨P, 2, none⟩ = some (.string B) := cell51 HP0.out 2 (by decide)
      go_wp2_with fail
      clear c20
      go_loopw [8, 35] (fun _ i wr => ∃ k : Nat, k ≤ B.size ∧ i = .int .i64 (k : Int) ∧ wr.heap[P + 1]? = some (partObj (digs (BL.take k) ++ List.replicate (40 - k) 0)) ∧ wr.heap[P]? = some (.cells #[.bool bl, .string A, .string B] 51) ∧ Below w.heap.size w wr ∧ wr.heap.size = P + 1 + 1) (fun _ i _ => 40 - (intOf i).toNat)
      case atStart => exact ⟨0, Nat.zero_le _, rfl, HX0.out, HP0.out, HB0.out, HS0.out⟩
      case round =>
        obtain ⟨k, hk, rfl, hx, hp, hbw, hsz⟩ := hrel
        have HX := Lib.hid hx; have HPP := Lib.hid hp; have HBW := Lib.hid hbw; have HSZ := Lib.hid hsz
        have c2 : wr.cell? ⟨P, 2, none⟩ = some (.string B) := cell51 hp 2 (by decide)
        clear hx hp hbw hsz
        by_cases hlt : k < B.size
        · obtain ⟨g1, g2, g3⟩ := HBD.out k hlt
          have d1 : decide ((k : Int) < (B.size : Int)) = true := decide_eq_true (by omega)
          have HFS := Lib.hid (fill_step BL k (by omega) g3)
          have HCE := Lib.hid (cells_at HX.out (d := 0) (fill_get BL k (by have := HBL.out; omega) (by omega)))
          have cx := HCE.out
          have fx := cells_fz HX.out k
          clear g3
          obtain ⟨d, hd⟩ : ∃ d, d = B[k].toNat - 48 := ⟨_, rfl⟩
          rw [← hd] at HFS
          have HT1 : Hid (((B[k].toNat : Int) - 48) = (d : Int)) := Lib.hid (by omega)
          have hd10 : d < 10 := by omega
          clear hd
          go_wp2_with fail
          go_roundw
          case rel =>
            refine ⟨k + 1, hlt, by go_num, ?_, ?_, ?_, ?_⟩
            · have := cells_set HX.out k d
              rw [HFS.out] at this
              rw [HT1.out]
              exact this
            · rw [heap_setCell_other _ _ _ _ (by simp)]; exact HPP.out
            · exact HBW.out.setCell (by simp; omega) _
            · rw [size_set]; exact HSZ.out
          case measure => simp [intOf]; omega
        · obtain rfl : k = B.size := by omega
          have d1 : decide ((B.size : Int) < (B.size : Int)) = false := decide_eq_false (by omega)
          go_upto_region 12 with fail
          have hfull := fill_full BL (by have := HBL.out; omega)
          rw [HBL.out] at HX
          rw [hfull] at HX
          clear hfull c2
          obtain ⟨D, hD⟩ : ∃ D, D = fillD BL := ⟨_, rfl⟩
          have hD40 : D.length = 40 := by rw [hD]; exact fill_len BL (by have := HBL.out; omega)
          have hDg : Dg D := by rw [hD]; exact fill_dg HDB.out
          rw [← hD] at HX
          have HSD : Hid (sumOf AL BL = (min (val (digs AL)) 1099511627776 : Nat) * 4294967296 + ((its 32 D).1 : Int) + roundUp D) := Lib.hid (by rw [hD]; rfl)
          clear hD
          have HST := Lib.hid (steps_any D hD40 hDg)
          have hK := its_bound hDg (i := 32) (by omega)
          refine wp_region_lit ?_
          refine wpList_load_row rfl 55 (.tmp 7) rfl (P + 1) rfl 55 (cellsD D) (0, 0) _ HX.out (show Tryd.prog.underlying 55 = some (.array 40 5) by kernel_rfl) rfl (by rw [show (cellsD D).size = 40 by simp [cellsD, hD40]]; kernel_rfl) ?_
          go_frame
          clear hD40 hDg
          obtain ⟨K, hKe⟩ : ∃ K, K = (its 32 D).1 := ⟨_, rfl⟩
          obtain ⟨ch, hch⟩ : ∃ ch, ch = cmpHalf (val (its 32 D).2) (10 ^ 40) := ⟨_, rfl⟩
          have HRU : Hid (roundUp D = if 0 < ch ∨ (ch = 0 ∧ K % 2 = 1) then 1 else 0) := Lib.hid (by rw [hKe, hch]; rfl)
          have hch3 : ch = -1 ∨ ch = 0 ∨ ch = 1 := by rw [hch]; unfold cmpHalf; split; exact .inl rfl; split; exact .inr (.inl rfl); exact .inr (.inr rfl)
          rw [← hKe, ← hch] at HST
          rw [← hKe] at HSD hK
          clear hKe hch
          go_wp2_with fail
          refine (HST.out _).mono ?_
          rintro e w2 ⟨rfl, hb2⟩
          have hold2 : Hold w.heap.size P _ w w2 := Hold.step ⟨HBW.out, HPP.out, by rw [HSZ.out]; omega⟩ (by rw [HSZ.out]; omega) hb2
          have H2 := Lib.hid hold2
          have c1 : w2.cell? ⟨P, 1, none⟩ = some (.string A) := cell51 hold2.2.1 1 (by decide)
          clear hb2 hold2
          obtain ⟨Wn, hWn⟩ : ∃ Wn, Wn = min (val (digs AL)) 1099511627776 := ⟨_, rfl⟩
          have HWH := Lib.hid (whole_any A (by omega) (by rw [HA.out]; exact HDA.out))
          rw [HA.out] at HWH
          rw [← hWn] at HWH HSD
          have hWn40 : Wn ≤ 1099511627776 := by omega
          clear hWn
          have HOF1 := Lib.hid (Of_any Wn (by omega))
          have HSH := Lib.hid (Shl_any Wn hWn40)
          have HOF2 := Lib.hid (Of_any K (by omega))
          have HAD := Lib.hid (Add_any ((Wn : Int) * 4294967296) K (by simp; omega) (by simp; omega))
          obtain ⟨S0, hS0⟩ : ∃ S0 : Int, S0 = (Wn : Int) * 4294967296 + K := ⟨_, rfl⟩
          have hS0b : 0 ≤ S0 ∧ S0 ≤ 1099511627777 * 4294967296 := by omega
          rw [← hS0] at HAD HSD
          go_wp2_with fail
          refine (HWH.out _).mono ?_
          rintro e w3 ⟨rfl, hb3⟩
          have H3 := Lib.hid (H2.out.step (by have := H2.out.1.size; have := H2.out.2.2; omega) hb3)
          clear hb3 c1
          go_wp2_with fail
          refine (HOF1.out _).mono ?_
          rintro e w4 ⟨rfl, hb4⟩
          have H4 := Lib.hid (H3.out.step (by have := H3.out.2.2; omega) hb4)
          clear hb4
          go_wp2_with fail
          refine (HSH.out _).mono ?_
          rintro e w5 ⟨rfl, hb5⟩
          have H5 := Lib.hid (H4.out.step (by have := H4.out.2.2; omega) hb5)
          clear hb5
          go_wp2_with fail
          refine (HOF2.out _).mono ?_
          rintro e w6 ⟨rfl, hb6⟩
          have H6 := Lib.hid (H5.out.step (by have := H5.out.2.2; omega) hb6)
          clear hb6
          obtain ⟨h0, l0, e0, f0, g0, k0⟩ := wideZ_ex S0
          have HE0 := Lib.hid e0
          rw [e0] at HAD
          clear e0
          go_wp2_with fail
          refine (HAD.out _).mono ?_
          rintro e w7 ⟨rfl, o1, o2, o3, hw7⟩
          have H7 := Lib.hid (H6.out.step (wj := w7) (by have := H6.out.2.2; omega) (by rw [hw7]; exact below_three2 _ _ _ _))
          clear hw7
          have HF0 := Lib.hid f0
          clear f0
          go_upto_region 14 with fail
          have HLO : Hid (0 ≤ S0 ∧ S0 ≤ 4722366482873940181000000) := Lib.hid (by omega)
          obtain ⟨Q, hQ⟩ : ∃ Q, Q = w7.heap.size := ⟨_, rfl⟩
          have hPQ : P < Q := by rw [hQ]; exact H7.out.2.2
          have HQ8 : Hid ((w7.alloc (.cells #[.int .i64 h0, .int .u64 l0] 58)).heap[Q]? = some (.cells #[.int .i64 h0, .int .u64 l0] 58)) := Lib.hid (by rw [hQ]; exact alloc_at _ _)
          have HK8 := Lib.hid (H7.out.step (wj := w7.alloc (.cells #[.int .i64 h0, .int .u64 l0] 58)) (by have := H7.out.2.2; omega) ((Below.refl _ _).alloc (Nat.le_refl _) _))
          rw [← hQ]
          clear hQ hS0b hS0
          obtain ⟨up, hup⟩ : ∃ up : Bool, up = decide (0 < ch ∨ (ch = 0 ∧ K % 2 = 1)) := ⟨_, rfl⟩
          have HUP := Lib.hid hup
          have HTS : Hid (sumOf AL BL = S0 + (if up = true then 1 else 0)) := Lib.hid (by rw [HSD.out, HRU.out, hup]; by_cases hc : 0 < ch ∨ (ch = 0 ∧ K % 2 = 1) <;> simp [hc])
          clear hup
          go_cut [69] from 59 (fun s69 wc => s69 = .bool up ∧ wc = w7.alloc (.cells #[.int .i64 h0, .int .u64 l0] 58))
          case first =>
            rcases hch3 with rfl | rfl | rfl
            · go_wp2_with fail
              go_meet
              case rel => exact ⟨by rw [HUP.out]; rfl, rfl⟩
            · rcases Nat.mod_two_eq_zero_or_one K with hk | hk
              · have k2 : bits BinOp.and IntKind.i64 (K : Int) 1 = 0 := by rw [and_oneK K (by omega), hk]; rfl
                go_wp2_with fail
                go_meet
                case rel => exact ⟨by rw [HUP.out, hk]; rfl, rfl⟩
              · have k2 : bits BinOp.and IntKind.i64 (K : Int) 1 = 1 := by rw [and_oneK K (by omega), hk]; rfl
                go_wp2_with fail
                go_meet
                case rel => exact ⟨by rw [HUP.out, hk]; rfl, rfl⟩
            · go_wp2_with fail
              go_meet
              case rel => exact ⟨by rw [HUP.out]; rfl, rfl⟩
          case rest =>
            obtain ⟨rfl, rfl⟩ := hcut
            go_upto_if 69 with fail
            go_cut [11] from 15 (fun s11 wc => s11 = .pointer (some ⟨Q, 0, none⟩) ∧ ∃ (h l S1 : Int), wideZ S1 = .agg #[.int .i64 h, .int .u64 l] ∧ sumOf AL BL = S1 ∧ (0 ≤ S1 ∧ S1 ≤ 4722366482873940181000001) ∧ wc.heap[Q]? = some (.cells #[.int .i64 h, .int .u64 l] 58) ∧ Hold w.heap.size P (.cells #[.bool bl, .string A, .string B] 51) w wc)
            case first =>
              cases up with
              | false =>
                go_wp2_with fail
                go_meet
                case rel => exact ⟨rfl, h0, l0, S0, HE0.out, by rw [HTS.out]; exact Int.add_zero _, by have := HLO.out; omega, HQ8.out, HK8.out⟩
              | true =>
                go_upto_region 15 with fail
                obtain ⟨W8, hW8⟩ : ∃ W, W = w7.alloc (.cells #[.int .i64 h0, .int .u64 l0] 58) := ⟨_, rfl⟩
                rw [← hW8] at HK8 HQ8 ⊢
                clear hW8
                have HOF := Lib.hid (show ∀ v : World, Calls Tryd.prog 27 #[.int .i64 1] v fun e v2 => e = .returned (.agg #[.int .i64 0, .int .u64 1]) ∧ Below v.heap.size v v2 from fun v => Of_any 1 (by omega) v)
                have HA1 := Lib.hid (Add_any S0 1 (by rw [show (2 : Int) ^ 100 = 1267650600228229401496703205376 by decide]; have := HLO.out; omega) (by decide))
                obtain ⟨h1, l1, e1, f1, g1, k1⟩ := wideZ_ex (S0 + 1)
                have ew1 : wideZ 1 = .agg #[.int .i64 0, .int .u64 1] := rfl
                rw [HE0.out, e1, ew1] at HA1
                clear ew1
                have HE := Lib.hid e1
                clear e1 f1
                obtain ⟨q0, q1, q2, q3⟩ := q_cells HQ8.out
                go_region_with (first | (go_at_call 27; refine (HOF.out _).mono ?_; rintro e w9 ⟨rfl, hb9⟩; have HQ9 := Lib.hid (kept hb9 HQ8.out); obtain ⟨r0, r1, r2, r3⟩ := q_cells HQ9.out; have H9 := Lib.hid (Hold.step (wi := W8.drew) ⟨HK8.out.1.drew, HK8.out.2.1, HK8.out.2.2⟩ HK8.out.1.size hb9); clear hb9) | (go_at_call 25; refine (HA1.out _).mono ?_; rintro e w10 ⟨rfl, o1, o2, o3, hw10⟩; have hb10 : Below w9.heap.size w9 w10 := (by rw [hw10]; exact below_three2 _ _ _ _); have HQ10 := Lib.hid (kept hb10 HQ9.out); obtain ⟨s0, s1, s2, s3⟩ := q_cells HQ10.out; have H10 := Lib.hid (H9.out.step H9.out.1.size hb10); clear hb10 hw10))
                all_goals (
                  have HQ := Lib.hid (q_set (x := .int .i64 h1) (y := .int .u64 l1) HQ10.out)
                  have HK := Lib.hid ((H10.out.set (Q := Q) (by omega) (by have := HK8.out.1.size; have := HK8.out.2.2; omega) 0 (.int .i64 h1)).set (Q := Q) (by omega) (by omega) 1 (.int .u64 l1))
                  go_wp2_with fail
                  go_meet
                  case rel => exact ⟨rfl, h1, l1, S0 + 1, HE.out, HTS.out, by have := HLO.out; omega, HQ.out, HK.out⟩)
            case rest =>
              obtain ⟨rfl, h, l, S1, he, hts, hbd, hq, hk⟩ := hcut
              have HE := Lib.hid he; have HTS1 := Lib.hid hts; have HLO1 := Lib.hid hbd; have HQ := Lib.hid hq; have HK := Lib.hid hk
              clear he hts hbd hq hk
              have HBd : Hid (-(2^100) ≤ S1 ∧ S1 < 2^100) := Lib.hid (by rw [show (2 : Int) ^ 100 = 1267650600228229401496703205376 by decide]; have := HLO1.out; omega)
              clear hch3
              have cp0 : wc.cell? ⟨P, 0, none⟩ = some (.bool bl) := cell51 HK.out.2.1 0 (by decide)
              cases bl with
              | false =>
                have HTT : Hid ((if false = true then -sumOf AL BL else sumOf AL BL) = S1) := Lib.hid (by rw [HTS1.out]; rfl)
                have HKB := HK; have HQB := HQ; have HEB := HE; have HBT := HBd
                obtain ⟨TT, hTT⟩ : ∃ TT, TT = S1 := ⟨_, rfl⟩
                rw [← hTT] at HTT HEB HBT
                clear hTT
                have HCL := Lib.hid (Clamp_any TT HBT.out)
                rw [HEB.out] at HCL
                obtain ⟨q0, q1, -, -⟩ := q_cells HQB.out
                go_wp2_with fail
                refine (HCL.out _).mono ?_
                rintro e w12 ⟨rfl, hb12⟩
                have H12 := Lib.hid (HKB.out.step (by have := HKB.out.1.size; have := HKB.out.2.2; omega) hb12)
                clear hb12 q0 q1
                go_wp2_with fail
                refine (Take_any _ _ 0 _ (by omega) _ (by simp) (by simp)).mono ?_
                rintro e w13 ⟨rfl, hw13⟩
                have H13 : Hid (Below w.heap.size w w13) := Lib.hid (by
                  have hs := H12.out.1.size
                  have hh := H12.out.1.alloc hs (.cells #[.int .i64 0] 69)
                  rcases hw13 with rfl | ⟨v, rfl⟩
                  · exact hh
                  · exact hh.setCell (by simpa using hs) v)
                clear hw13
                go_wp2_with fail
                exact bodyPost_ret (v := .tuple #[.int .i64 (sat TT), .bool (satB TT), .int .i64 0]) (by simp [results, Tryd.results13, go_sem]) rfl ⟨by rw [HR.out, HTT.out], H13.out⟩
              | true =>
                have HTT : Hid ((if true = true then -sumOf AL BL else sumOf AL BL) = -S1) := Lib.hid (by rw [HTS1.out]; rfl)
                have HNG := Lib.hid (Neg_any S1 HBd.out)
                rw [HE.out] at HNG
                obtain ⟨hh, ll, e9, f9, g9, k9⟩ := wideZ_ex (-S1)
                rw [e9] at HNG
                have HEB := Lib.hid e9
                have HBT : Hid (-(2^100) ≤ -S1 ∧ -S1 < 2^100) := Lib.hid (by rw [show (2 : Int) ^ 100 = 1267650600228229401496703205376 by decide]; have := HLO1.out; omega)
                obtain ⟨q0, q1, -, -⟩ := q_cells HQ.out
                clear e9 f9
                go_wp2_with fail
                refine (HNG.out _).mono ?_
                rintro e w11 ⟨rfl, hb11⟩
                have hq11 := kept hb11 HQ.out
                have H11 := Lib.hid (HK.out.step (by have := HK.out.1.size; have := HK.out.2.2; omega) hb11)
                obtain ⟨r0, r1, r2, r3⟩ := q_cells hq11
                have HQB := Lib.hid (q_set (x := .int .i64 hh) (y := .int .u64 ll) hq11)
                have HKB := Lib.hid ((H11.out.set (Q := Q) (by omega) (by omega) 0 (.int .i64 hh)).set (Q := Q) (by omega) (by omega) 1 (.int .u64 ll))
                clear hb11 hq11 q0 q1 cp0
                go_upto_region 18 with fail
                obtain ⟨WB, hWB⟩ : ∃ WB, WB = (w11.setCell ⟨Q, 0, none⟩ (.int .i64 hh)).setCell ⟨Q, 1, none⟩ (.int .u64 ll) := ⟨_, rfl⟩
                rw [← hWB] at HQB HKB ⊢
                clear hWB r0 r1 r2 r3
                obtain ⟨TT, hTT⟩ : ∃ TT, TT = -S1 := ⟨_, rfl⟩
                rw [← hTT] at HTT HEB HBT
                clear hTT
                have HCL := Lib.hid (Clamp_any TT HBT.out)
                rw [HEB.out] at HCL
                obtain ⟨q0, q1, -, -⟩ := q_cells HQB.out
                go_wp2_with fail
                refine (HCL.out _).mono ?_
                rintro e w12 ⟨rfl, hb12⟩
                have H12 := Lib.hid (HKB.out.step (by have := HKB.out.1.size; have := HKB.out.2.2; omega) hb12)
                clear hb12 q0 q1
                go_wp2_with fail
                refine (Take_any _ _ 0 _ (by omega) _ (by simp) (by simp)).mono ?_
                rintro e w13 ⟨rfl, hw13⟩
                have H13 : Hid (Below w.heap.size w w13) := Lib.hid (by
                  have hs := H12.out.1.size
                  have hh := H12.out.1.alloc hs (.cells #[.int .i64 0] 69)
                  rcases hw13 with rfl | ⟨v, rfl⟩
                  · exact hh
                  · exact hh.setCell (by simpa using hs) v)
                clear hw13
                go_wp2_with fail
                exact bodyPost_ret (v := .tuple #[.int .i64 (sat TT), .bool (satB TT), .int .i64 0]) (by simp [results, Tryd.results13, go_sem]) rfl ⟨by rw [HR.out, HTT.out], H13.out⟩
theorem Parse_any (s : ByteArray) (hs : s.size ≤ 100000) (w : World) : Calls Tryd.prog 13 #[.string s] w fun e w' => e = .returned (parseT s.data.toList) ∧ Below w.heap.size w w' := by
  rcases h : partsL s.data.toList with _ | ⟨below, A, B⟩
  · exact Parse_none s hs h w
  · exact Parse_some s hs below A B h w
end Go.Proofs.YtfpmchhpejncpaaDoor
