/- Digits: a list of digits times 2^32, of the document. -/
import Derived.Test.YtfpmchhpejncpaaDoorN4
namespace Go.Proofs.YtfpmchhpejncpaaDoor
open Go.RowKit
set_option maxRecDepth 100000
set_option linter.unusedVariables false

theorem info45 : (Tryd.prog.info? 45).map (fun i => (i.zero, i.size, i.bytes)) = some (some (.int .u64 0), 1, 8) := by kernel_rfl
def cellsU (l : List Nat) : List Value := l.map fun d : Nat => .int .u64 (d : Int)
/-- A slice of digits of one's own. -/
def OwnU (w : World) (base : Nat) (v : Value) (l : List Nat) : Prop := w.ownsRow base 45 1 v l.length (cellsU l)
theorem OwnU.nil (w : World) (base : Nat) : OwnU w base (.slice none 0 0) [] := World.ownsRow_nil _ _ _ _
theorem pushU_run {w : World} {base : Nat} {v : Value} {l : List Nat} (h : OwnU w base v l) (hb : base ≤ w.heap.size) (hl : l.length ≤ 1000) (x : Nat) (c : Int) (hc : c = (x : Int)) :
    ∃ g cap w', (Builtin.append_ #[71, 71] 71 #[v, .slice (some ⟨w.heap.size, 0, none⟩) 1 1]).run Tryd.prog (w.alloc (.cells #[.int .u64 c] 45)) = .ok (.slice (some ⟨g, 0, none⟩) (l.length + 1) cap) w' ∧ OwnU w' base (.slice (some ⟨g, 0, none⟩) (l.length + 1) cap) (l ++ [x]) ∧ Below base w w' := by
  obtain ⟨i5, gi, gz0, gz1, gz2⟩ := info_parts info45
  have hal : Below base w (w.alloc (.cells #[.int .u64 c] 45)) := (Below.refl _ w).alloc hb _
  obtain ⟨v', w', hr, own, hg, -⟩ := run_append_own (w.alloc (.cells #[.int .u64 c] 45)) base 71 71 45 i5 (.int .u64 0) 1 8 Tryd.underlying71 gi gz0 gz1 gz2 rfl (by decide) v l.length (cellsU l) (World.ownsRow.alloc h _) ⟨w.heap.size, 0, none⟩ 1 1 [.int .u64 c] rfl
    (fun j u hu => by
      match j, hu with
      | 0, hu => simp at hu; subst hu; simp [go_sem, Addr.add]
      | j + 1, hu => simp at hu) (fun u hu => by simp at hu; subst hu; rfl) (by simp only [maxLen]; omega) (by omega) (by rw [World.size_alloc]; omega)
  obtain ⟨g, cap, rfl⟩ : ∃ g cap, v' = .slice (some ⟨g, 0, none⟩) (l.length + 1) cap := by
    rcases own.2 with ⟨_, h0⟩ | ⟨g, cap, cur, e, _⟩
    · omega
    · exact ⟨g, cap, e⟩
  refine ⟨g, cap, w', hr, ?_, hal.grown hg (by rw [World.size_alloc]; omega) (fun k e => (World.ownsRow.lt h k e).1)⟩
  unfold OwnU
  have e : cellsU (l ++ [x]) = cellsU l ++ [.int .u64 c] := by simp [cellsU, hc]
  rw [e, List.length_append]
  exact own
theorem OwnU.cell {w : World} {base g cap : Nat} {l : List Nat} (h : OwnU w base (.slice (some ⟨g, 0, none⟩) l.length cap) l) {j d : Nat} (hj : l[j]? = some d) : w.cell? ⟨g, j, none⟩ = some (.int .u64 (d : Int)) := by
  have hlt := (List.getElem?_eq_some_iff.1 hj).1
  rw [World.ownsRow.cellAt h j (by omega)]
  simp [cellsU, hj]
theorem OwnU.lt {w : World} {base g cap : Nat} {l : List Nat} (h : OwnU w base (.slice (some ⟨g, 0, none⟩) l.length cap) l) : base ≤ g ∧ g < w.heap.size := by
  have := World.ownsRow.lt h g rfl
  exact ⟨this.1, this.2⟩
set_option maxHeartbeats 8000000 in
theorem times_any (l : List Nat) (hl : l.length ≤ 60) (hd : Dg l) (g0 cap0 : Nat) (w : World) (hg : g0 < w.heap.size) (hc : ∀ (j d : Nat), l[j]? = some d → w.cell? ⟨g0, j, none⟩ = some (.int .u64 (d : Int))) :
    Calls Tryd.prog 32 #[.slice (some ⟨g0, 0, none⟩) l.length cap0, .int .u64 4294967296] w fun e w' => ∃ v, e = .returned v ∧ OwnU w' w.heap.size v (timL l 4294967296 0) ∧ Below w.heap.size w w' := by
  have HC := Lib.hid hc; have HD := Lib.hid hd
  have HLE := Lib.hid (timL_len_le l 0 hd (by omega))
  obtain ⟨T, hT⟩ : ∃ T, T = timL l 4294967296 0 := ⟨_, rfl⟩
  rw [← hT] at HLE ⊢
  have HT := Lib.hid hT
  clear hc hd hT
  go_enter Tryd.func32, Tryd.ntmps32
  go_wp2_with fail
  go_loopw [5, 6, 7] (fun out c i wr => ∃ (o : List Nat) (cc : Nat), OwnU wr w.heap.size out o ∧ c = .int .u64 (cc : Int) ∧ i = .int .i64 (o.length : Int) ∧ cc ≤ 4294967296 ∧ o ++ timL (l.drop o.length) 4294967296 cc = T ∧ Below w.heap.size w wr) (fun _ c i _ => (l.length - (intOf i).toNat) * 8589934592 + (intOf c).toNat)
  case atStart => exact ⟨[], 0, OwnU.nil _ _, rfl, rfl, by omega, by rw [HT.out]; simp, Below.refl _ _⟩
  case round =>
    obtain ⟨o, cc, hown, rfl, rfl, hcc, htxt, hbl⟩ := hrel
    have HTX := Lib.hid htxt; have HBL := Lib.hid hbl
    have hol : o.length ≤ 70 := by
      have := congrArg List.length htxt
      rw [List.length_append] at this
      have := HLE.out
      omega
    clear htxt hbl
    obtain ⟨oa, cap, rfl⟩ := row_slice hown
    by_cases hlt : o.length < l.length
    · obtain ⟨d, hdd⟩ : ∃ d, l[o.length]? = some d := ⟨_, List.getElem?_eq_getElem hlt⟩
      have hd10 : d < 10 := HD.out d (List.mem_of_getElem? hdd)
      have c1 : wr.cell? ⟨g0, o.length, none⟩ = some (.int .u64 (d : Int)) := by
        have h := HC.out _ _ hdd
        simp only [World.cell?] at h ⊢
        rw [HBL.out.block g0 hg]; exact h
      have HDR := Lib.hid (show timL (l.drop o.length) 4294967296 cc = (cc + d * 4294967296) % 10 :: timL (l.drop (o.length + 1)) 4294967296 ((cc + d * 4294967296) / 10) from by
        rw [List.drop_eq_getElem_cons hlt]
        have : l[o.length] = d := (List.getElem?_eq_some_iff.1 hdd).2
        rw [this, timL])
      clear hdd
      have d1 : decide ((o.length : Int) < (l.length : Int)) = true := decide_eq_true (by omega)
      obtain ⟨q, hq⟩ : ∃ q, q = cc + d * 4294967296 := ⟨_, rfl⟩
      have hq2 : q ≤ 42949672960 := by omega
      have m1 : IntKind.u64.wrap ((d : Int) * 4294967296) = (d : Int) * 4294967296 := by rw [IntKind.wrap_u64]; omega
      have m2 : (cc : Int) + (d : Int) * 4294967296 = (q : Int) := by omega
      have m3 : IntKind.u64.wrap ((q : Int)) = (q : Int) := by rw [IntKind.wrap_u64]; omega
      rw [← hq] at HDR
      clear hq
      obtain ⟨g, cp, wp, hrp, hop, hbp⟩ := pushU_run hown HBL.out.size (by omega) (q % 10) ((q : Int) % 10) (by omega)
      have HOP := Lib.hid hop; have HBP := Lib.hid (HBL.out.trans hbp)
      clear hop hbp hown
      go_wp2_with (at_builtin; refine wpList_append_run rfl rfl (s := .tmp 30) (x := .tmp 33) (t := 71) rfl rfl hrp ?_)
      go_roundw
      case rel =>
        refine ⟨o ++ [q % 10], q / 10, ?_, by go_num, by simp, by omega, ?_, HBP.out⟩
        · exact HOP.out
        · rw [List.append_assoc, List.length_append]
          have := HTX.out
          rw [HDR.out] at this
          exact this
      case measure => simp [intOf]; omega
    · have hge : l.length ≤ o.length := by omega
      have d1 : decide ((o.length : Int) < (l.length : Int)) = false := decide_eq_false (by omega)
      have HDR := Lib.hid (show timL (l.drop o.length) 4294967296 cc = lowD cc from by rw [List.drop_eq_nil_iff.2 hge, timL])
      by_cases h0 : cc = 0
      · subst h0
        have HOW := Lib.hid hown
        clear hown
        go_wp2_with fail
        go_ret
        refine ⟨_, rfl, ?_, HBL.out⟩
        have := HTX.out
        rw [HDR.out, lowD_zero, List.append_nil] at this
        rw [← this]; exact HOW.out
      · have HLD := Lib.hid (lowD_succ h0)
        have d2 : decide (0 < (cc : Int)) = true := decide_eq_true (by omega)
        obtain ⟨g, cp, wp, hrp, hop, hbp⟩ := pushU_run hown HBL.out.size (by omega) (cc % 10) ((cc : Int) % 10) (by omega)
        have HOP := Lib.hid hop; have HBP := Lib.hid (HBL.out.trans hbp)
        clear hop hbp hown
        go_wp2_with (at_builtin; refine wpList_append_run rfl rfl (s := .tmp 30) (x := .tmp 33) (t := 71) rfl rfl hrp ?_)
        go_roundw
        case rel =>
          refine ⟨o ++ [cc % 10], cc / 10, ?_, by go_num, by simp, by omega, ?_, HBP.out⟩
          · exact HOP.out
          · rw [List.append_assoc, List.length_append]
            have := HTX.out
            rw [HDR.out, HLD.out] at this
            rw [show l.drop (o.length + [cc % 10].length) = [] from List.drop_eq_nil_iff.2 (by simp; omega), timL]
            exact this
        case measure => simp [intOf]; omega
end Go.Proofs.YtfpmchhpejncpaaDoor
