/- Link: the program's Next and Bytes. -/
import Derived.Test.YtklkhlipecphkaaLw
namespace Go.Proofs.Ytklkhlipecphkaa
open Go.RowKit Go.Joins Go.Maps
set_option maxRecDepth 100000
set_option linter.unusedVariables false

theorem from_none {N B M : Nat} {nodes most : Int} {f : Lit → Option Value} {n : Nat} {ps : List Ml} {w : World} (h : PH N B M nodes most f n ps w) {to : Int} (hz : ∀ j : Nat, (j : Int) < nodes → usOf ps j to = []) : IsFrom (abs ps) to 0 false := by
  refine .inl ⟨rfl, rfl, fun m hm ht => ?_⟩
  obtain ⟨p, hp, rfl⟩ := List.mem_map.1 hm
  have ho := h.ok p hp
  have h0 := ho.a0
  have := hz p.f.toNat (by have := ho.a1; omega)
  rw [Int.toNat_of_nonneg h0] at this
  have hin : p.v ∈ usOf ps p.f to := List.mem_map.2 ⟨p, List.mem_filter.2 ⟨hp, wayM_iff.2 ⟨rfl, ht⟩⟩, rfl⟩
  rw [this] at hin
  simp at hin
theorem from_some {N B M : Nat} {nodes most : Int} {f : Lit → Option Value} {n : Nat} {ps : List Ml} {w : World} (h : PH N B M nodes most f n ps w) {to : Int} {k : Nat} (hz : ∀ j : Nat, j < k → usOf ps j to = []) (hk : 0 < (usOf ps k to).length) : IsFrom (abs ps) to k true := by
  obtain ⟨v, hv⟩ := List.exists_mem_of_length_pos hk
  obtain ⟨p, hp, rfl⟩ := List.mem_map.1 hv
  obtain ⟨hp, hw⟩ := List.mem_filter.1 hp
  have hw := wayM_iff.1 hw
  refine .inr ⟨rfl, ⟨p.ab, List.mem_map.2 ⟨p, hp, rfl⟩, hw.2, hw.1⟩, fun m hm ht => ?_⟩
  obtain ⟨q, hq, rfl⟩ := List.mem_map.1 hm
  have ho := h.ok q hq
  have h0 := ho.a0
  by_cases hlt : q.f < (k : Int)
  · have := hz q.f.toNat (by omega)
    rw [Int.toNat_of_nonneg h0] at this
    have hin : q.v ∈ usOf ps q.f to := List.mem_map.2 ⟨q, List.mem_filter.2 ⟨hq, wayM_iff.2 ⟨rfl, ht⟩⟩, rfl⟩
    rw [this] at hin
    simp at hin
  · show (k : Int) ≤ q.f
    omega
set_option maxHeartbeats 4000000 in
theorem pNext_any {N B M : Nat} {nodes most : Int} {f : Lit → Option Value} {n : Nat} {ps : List Ml} {w : World} (h : PH N B M nodes most f n ps w) (h1 : 0 < nodes) (h2 : nodes ≤ 65) {to : Int} (wt : (Lit.int .i64 to).wf = true) :
    Calls Try.prog 44 #[.pointer (some ⟨B, 0, none⟩), .int .i64 to] w fun e w' => ∃ x ok, e = .returned (.tuple #[.int .i64 x, .bool ok]) ∧ IsFrom (abs ps) to x ok ∧ w' = w := by
  obtain ⟨nn, rfl⟩ : ∃ nn : Nat, nodes = nn := ⟨nodes.toNat, by omega⟩
  have H := Lib.hid h
  have c0 := h.net.c0
  have c2 := h.net.c2
  have HWT := Lib.hid wt
  have HIS := Lib.hid (lis_yes h.net h1)
  clear h wt
  go_enter Try.func44, Try.ntmps44
  go_wp2_with fail
  refine HIS.out.mono ?_
  rintro e w1 ⟨rfl, rfl⟩
  go_wp2_with fail
  go_loopw [6, 14] (fun _ i wr => ∃ k : Nat, k ≤ nn ∧ i = .int .i64 (k : Int) ∧ (∀ j : Nat, j < k → usOf ps j to = []) ∧ wr = w1) (fun _ i _ => nn - (intOf i).toNat)
  case atStart => exact ⟨0, Nat.zero_le _, rfl, fun j hj => absurd hj (by omega), rfl⟩
  case round =>
    obtain ⟨k, hk, rfl, hz, rfl⟩ := hrel
    have HZ := Lib.hid hz
    clear hz
    by_cases hlt : k < nn
    · obtain ⟨kl, hkey, hrow⟩ := H.out.look (a := (k : Int)) (b := to) (wf_small (by omega) (by omega)) HWT.out
      have hl := rows_look H.out.net.map hkey
      obtain ⟨v, hv⟩ : ∃ v, v = (f kl).getD (.slice none 0 0) := ⟨_, rfl⟩
      rw [← hv] at hl hrow
      unfold wv at hl
      obtain ⟨m, hm⟩ : ∃ m, m = (usOf ps k to).length := ⟨_, rfl⟩
      rw [← hm] at hrow
      obtain ⟨oa, cap, rfl⟩ := row_slice hrow
      have HM := Lib.hid hm
      have hlen : m ≤ maxLen := by
        rcases hrow.2 with ⟨e, h0⟩ | ⟨g', cap', cur, e, _, _, hle, hcm, _⟩
        · omega
        · cases e; omega
      unfold maxLen at hlen
      clear hv hm hrow hkey
      have e1 : decide ((k : Int) < (nn : Int)) = true := decide_eq_true (by omega)
      by_cases h0 : 0 < m
      · have e2 : decide (0 < (m : Int)) = true := decide_eq_true (by omega)
        go_wp2_with fail
        go_ret2
        exact ⟨_, true, rfl, from_some H.out HZ.out (by rw [← HM.out]; exact h0), rfl⟩
      · have e2 : decide (0 < (m : Int)) = false := decide_eq_false (by omega)
        go_wp2_with fail
        go_roundw
        case rel =>
          refine ⟨k + 1, by omega, by go_num, fun j hj => ?_, trivial⟩
          rcases Nat.lt_or_ge j k with h | h
          · exact HZ.out j h
          · obtain rfl : j = k := by omega
            exact List.eq_nil_of_length_eq_zero (by rw [← HM.out]; omega)
        case measure => simp [intOf]; omega
    · have e1 : decide ((k : Int) < (nn : Int)) = false := decide_eq_false (by omega)
      go_wp2_with fail
      go_ret2
      exact ⟨0, false, rfl, from_none H.out (fun j hj => HZ.out j (by omega)), rfl⟩

noncomputable def keyL (a b : Int) : Lit := (keyOf Try.prog 92 (wv a b)).getD (.int .i64 0)
noncomputable def doneLen (ps : List Ml) (left : Lit → Bool) : Nat := ((ps.filter (fun m => !left (keyL m.f m.t))).map fun m => m.L.length).sum
theorem done_step {left : Lit → Bool} {kl : Lit} {a b : Int} (hl : left kl = true) (hk : keyOf Try.prog 92 (wv a b) = some kl) : ∀ (ps : List Ml), (∀ m ∈ ps, (Lit.int .i64 m.f).wf = true ∧ (Lit.int .i64 m.t).wf = true) →
    doneLen ps (fun z => left z && !z.sameKey kl) = doneLen ps left + lenTo (ps.filter (wayM a b)) (ps.filter (wayM a b)).length
  | [], _ => rfl
  | m :: ps, hwf => by
    have ih := done_step hl hk ps (fun q hq => hwf q (List.mem_cons_of_mem _ hq))
    obtain ⟨wa, wb⟩ := hwf m (List.mem_cons_self ..)
    obtain ⟨km, hkm⟩ := key_any wa wb
    have hkL : keyL m.f m.t = km := by unfold keyL; rw [hkm]; rfl
    unfold doneLen lenTo at ih ⊢
    simp only [List.take_length] at ih ⊢
    by_cases hw : wayM a b m = true
    · have hw2 := wayM_iff.1 hw
      have e : km = kl := by rw [hw2.1, hw2.2, hk] at hkm; cases hkm; rfl
      subst e
      have hs : km.sameKey km = true := WideAt.sameKey_self (lawW.key hk)
      simp only [List.filter_cons, hkL, hl, hs, hw]
      simp only [Bool.not_true, Bool.and_false, Bool.not_false, if_true, Bool.false_eq_true, if_false, List.map_cons, List.sum_cons]
      omega
    · have hne : km ≠ kl := key_ne hkm hk (fun o => hw (wayM_iff.2 o))
      have hs : km.sameKey kl = false := Maps.sameKey_ne hne
      have hwf : wayM a b m = false := by simpa using hw
      simp only [List.filter_cons, hkL, hs, hwf]
      simp only [Bool.not_false, Bool.and_true, Bool.false_eq_true, if_false]
      by_cases hlk : left km = true
      · simp only [hlk, Bool.not_true, Bool.false_eq_true, if_false]
        exact ih
      · have hlk : left km = false := by simpa using hlk
        simp only [hlk, Bool.not_false, if_true, List.map_cons, List.sum_cons]
        omega
theorem done_all (ps : List Ml) {left : Lit → Bool} (h : ∀ kl, left kl = false) : ((doneLen ps left : Nat) : Int) = sumA (abs ps) := by
  unfold doneLen sumA abs
  rw [List.map_map]
  have : ps.filter (fun m => !left (keyL m.f m.t)) = ps := List.filter_eq_self.2 (fun m hm => by simp [h])
  rw [this]
  rfl
theorem done_none (ps : List Ml) {left : Lit → Bool} (h : ∀ m ∈ ps, left (keyL m.f m.t) = true) : doneLen ps left = 0 := by
  unfold doneLen
  have : ps.filter (fun m => !left (keyL m.f m.t)) = [] := List.filter_eq_nil_iff.2 (fun m hm => by simp [h m hm])
  rw [this]; rfl
theorem view_some {D : DataW Value} {f : Lit → Option Value} (h : LView D f) {kl : Lit} {c : Value} {y : DataW Value × List MemPlace} (hy : rdV c = some y) (hat : ∀ zd, D.atKey kl zd = y.1) : f kl = some c := by
  cases hy
  cases hf : f kl with
  | some v =>
    have h1 := h kl c
    rw [hat, hf] at h1
    simp at h1
    rw [h1]
  | none =>
    have h1 := h kl (.int .i64 0)
    have h2 := h kl (.int .i64 1)
    rw [hat, hf] at h1 h2
    simp at h1 h2
    rw [h1] at h2
    cases h2
theorem view_has {D : DataW Value} {f : Lit → Option Value} (h : LView D f) {kl : Lit} {v : Value} (hf : f kl = some v) : Maps.has D kl = true := by
  cases hh : Maps.has D kl with
  | true => rfl
  | false =>
    have h1 := h kl (.int .i64 0)
    have h2 := h kl (.int .i64 1)
    rw [Maps.atKey_of_not_has hh] at h1 h2
    rw [hf] at h1 h2
    simp at h1 h2
    rw [← h1] at h2
    cases h2
theorem done_le {ps : List Ml} (h : ∀ m ∈ ps, m.L.length ≤ 300) (left : Lit → Bool) : doneLen ps left ≤ 300 * ps.length := by
  have h1 := lenTo_le (rs := ps.filter (fun m => !left (keyL m.f m.t))) (fun m hm => h m (List.mem_filter.1 hm).1) _ (Nat.le_refl _)
  unfold lenTo at h1
  rw [List.take_length] at h1
  have h2 := List.length_filter_le (fun m => !left (keyL m.f m.t)) ps
  unfold doneLen
  omega
theorem PH.wf {N B M : Nat} {nodes most : Int} {f : Lit → Option Value} {n : Nat} {ps : List Ml} {w : World} (h : PH N B M nodes most f n ps w) (h2 : nodes ≤ 65) : ∀ m ∈ ps, (Lit.int .i64 m.f).wf = true ∧ (Lit.int .i64 m.t).wf = true := fun m hm => (h.ok m hm).wf h2
theorem PH.inMap {N B M : Nat} {nodes most : Int} {f : Lit → Option Value} {n : Nat} {ps : List Ml} {w : World} (h : PH N B M nodes most f n ps w) (h2 : nodes ≤ 65) {D : DataW Value} (hv : LView D f) : ∀ m ∈ ps, Maps.has D (keyL m.f m.t) = true := fun m hm => by
  have ho := h.ok m hm
  obtain ⟨kl, hk⟩ := key_any (ho.wf h2).1 (ho.wf h2).2
  have hkL : keyL m.f m.t = kl := by unfold keyL; rw [hk]; rfl
  rw [hkL]
  have hrow := h.row m.f m.t kl ho hk
  have hin : m.v ∈ usOf ps m.f m.t := List.mem_map.2 ⟨m, List.mem_filter.2 ⟨hm, wayM_iff.2 ⟨rfl, rfl⟩⟩, rfl⟩
  have hpos := List.length_pos_of_mem hin
  cases hf : f kl with
  | some v => exact view_has hv hf
  | none =>
    rw [hf] at hrow
    rcases ownsRow_forms hrow with ⟨_, h0⟩ | ⟨g, cp, h⟩
    · omega
    · simp at h
set_option maxHeartbeats 4000000 in
theorem pBytes_any {N B M : Nat} {nodes most : Int} {f : Lit → Option Value} {n : Nat} {ps : List Ml} {w : World} (h : PH N B M nodes most f n ps w) (h1 : 0 < nodes) (h2 : nodes ≤ 65) (hl : ps.length ≤ 1000) :
    Calls Try.prog 41 #[.pointer (some ⟨B, 0, none⟩)] w fun e w' => e = .returned (.int .i64 (sumA (abs ps))) ∧ Below w.heap.size w w' := by
  have H := Lib.hid h
  have c2 := h.net.c2
  have HIS := Lib.hid (lis_yes h.net h1)
  obtain ⟨D, hown, hv⟩ := h.net.map
  have HV := Lib.hid hv
  have HIN := Lib.hid (h.inMap h2 hv)
  have HWF := Lib.hid (h.wf h2)
  clear hv h
  go_enter Try.func41, Try.ntmps41
  go_wp2_with fail
  refine HIS.out.mono ?_
  rintro e w1 ⟨rfl, rfl⟩
  go_wp2_with (at_range; refine wpList_range_own _ rfl _ 86 rfl 92 29 lawW Try.underlying86 rdV M n D rfl hown ?_; intro w0 hrg0 hg0 hs0)
  go_frame
  go_loopw [3, 5, 7] (fun x _ _ wr => ∃ (left : Lit → Bool) (cnt : Nat), wr.ranges Try.prog 92 rdV M w1.heap.size n D left cnt ∧ x = .int .i64 ((doneLen ps left : Nat) : Int) ∧ Below w1.heap.size w1 wr)
    (fun _ _ _ wr => wr.rangeLeft M w1.heap.size)
  case atStart => exact ⟨_, _, hrg0, by rw [done_none ps HIN.out]; rfl, ⟨hg0.os, hg0.tape, hg0.output, hg0.size, fun i hi => hg0.block i hi (by simp)⟩⟩
  case round =>
    obtain ⟨left, cnt, hrg, rfl, hbl⟩ := hrel
    have HBL := Lib.hid hbl
    clear hbl hrg0 hg0 hs0 hown
    go_wp2_with (at_next; refine wpList_next_ranges (α := Value) (β := Value) _ rfl _ rfl 92 lawW rdV (fun v => v) (fun v => v) (fun key kl hkey => ⟨key, rfl⟩) (fun v y hv => ⟨v, rfl⟩) M w1.heap.size n _ _ _ rfl hrg ?_ ?_)
    · intro _ hl0
      have hdone := done_all ps hl0
      have HD := Lib.hid hdone
      clear hdone hl0
      go_wp2_with fail
      go_ret
      exact ⟨by rw [HD.out]; rfl, HBL.out⟩
    · intro key c kl y1 y2 w2 cnt2 hkey hlx hy hat hrg2 hlt hg2 hs2 hen
      have hf := view_some (c := c) HV.out hy hat
      obtain ⟨a, b, ho, hk⟩ := H.out.dom kl c hf
      have hrow := H.out.row a b kl ho hk
      rw [hf, Option.getD_some] at hrow
      obtain ⟨fl, hfl⟩ : ∃ fl, fl = ps.filter (wayM a b) := ⟨_, rfl⟩
      have hus : usOf ps a b = fl.map Ml.v := by rw [usOf, hfl]
      rw [hus, List.length_map] at hrow
      have hstep := done_step (b := b) hlx hk ps HWF.out
      rw [← hfl] at hstep
      have hmsg : ∀ m ∈ fl, w1.ownsRow N 5 1 m.v (by8 m.L).length (by8 m.L) ∧ m.L.length ≤ 300 := fun m hm => by
        rw [hfl] at hm
        have := (List.mem_filter.1 hm).1
        exact ⟨H.out.msg m this, H.out.len m this⟩
      have hfle : fl.length ≤ ps.length := by rw [hfl]; exact List.length_filter_le _ _
      have hbl2 : Below w1.heap.size w1 w2 := HBL.out.grown hg2 HBL.out.size (fun q hq => by cases hq; exact Nat.le_refl _)
      obtain ⟨oa, cap, rfl⟩ := row_slice hrow
      have hcells : ∀ j x, fl[j]? = some x → ∃ g, oa = some ⟨g, 0, none⟩ ∧ w2.cell? ⟨g, j, none⟩ = some x.v := fun j x hx => by
        have hj := (List.getElem?_eq_some_iff.1 hx).1
        rcases ownsRow_forms hrow with ⟨_, h0⟩ | ⟨g, cp, e⟩
        · omega
        · cases e
          refine ⟨g, rfl, ?_⟩
          have c1 : w1.cell? ⟨g, j, none⟩ = some x.v := by
            rw [hrow.cellAt j (by omega), List.getElem?_map, hx]; rfl
          exact (hbl2.cell (lt_of_cell c1)).trans c1
      have hdl := done_le (fun m hm => H.out.len m hm) left
      obtain ⟨s, hs⟩ : ∃ s, s = doneLen ps left := ⟨_, rfl⟩
      rw [← hs] at hstep hdl ⊢
      obtain ⟨ml, hml⟩ : ∃ ml, ml = fl.length := ⟨_, rfl⟩
      rw [← hml] at hstep hen hfle ⊢
      have hml2 : ml ≤ 1000 := by omega
      have hs2 : s ≤ 300000 := by omega
      have HC := Lib.hid hcells; have HMS := Lib.hid hmsg; have HST := Lib.hid hstep; have HRG2 := Lib.hid hrg2; have HLT := Lib.hid hlt; have HBL2 := Lib.hid hbl2; have HRG := Lib.hid hrg; have HML := Lib.hid hml
      clear hf ho hk hrow hus hmsg hstep hbl2 hcells hrg2 hlt hfl hs hml hkey hlx hy hat hg2 hrg hdl
      go_wp2_with fail
      go_loopw [3, 7, 22] (fun x _ i W => ∃ k : Nat, k ≤ ml ∧ i = .int .i64 (k : Int) ∧ x = .int .i64 ((s + lenTo fl k : Nat) : Int) ∧ W = w2) (fun _ _ i _ => ml - (intOf i).toNat)
      case atStart => exact ⟨0, Nat.zero_le _, rfl, by rw [lenTo_zero]; rfl, rfl⟩
      case round =>
        obtain ⟨k, hk, rfl, rfl, rfl⟩ := hrel
        by_cases hkl : k < ml
        · obtain ⟨x, hx⟩ := get_some (rs := fl) (k := k) (by rw [← HML.out]; exact hkl)
          obtain ⟨g, rfl, hcx⟩ := HC.out k x hx
          obtain ⟨hown, hx3⟩ := HMS.out x (List.mem_of_getElem? hx)
          have HY := Lib.hid (lenTo_succ hx)
          have hle := lenTo_le (rs := fl) (fun m hm => (HMS.out m hm).2) k (by rw [← HML.out]; omega)
          obtain ⟨q, hq⟩ : ∃ q, q = lenTo fl k := ⟨_, rfl⟩
          rw [← hq] at hle ⊢
          have HQ := Lib.hid hq
          rw [by8_len] at hown
          obtain ⟨z, hz⟩ : ∃ z, z = x.L.length := ⟨_, rfl⟩
          rw [← hz] at hown HY hx3
          obtain ⟨ov, cv, hv⟩ := row_slice hown
          rw [hv] at hcx
          clear hx hown hq hz hv
          have d1 : decide ((k : Int) < (ml : Int)) = true := decide_eq_true (by omega)
          go_wp2_with fail
          go_roundw
          case rel => exact ⟨k + 1, by omega, by go_num, by rw [HY.out, ← HQ.out]; go_num, trivial⟩
          case measure => simp [intOf]; omega
        · have hkm : k = ml := by omega
          have HKM := Lib.hid hkm
          have d1 : decide ((k : Int) < (ml : Int)) = false := decide_eq_false (by omega)
          clear hkm
          go_wp2_with fail
          go_roundw
          case rel => exact ⟨_, cnt2, HRG2.out, by rw [HST.out, HKM.out, HML.out], HBL2.out⟩
          case measure => rw [HRG2.out.left_eq, HRG.out.left_eq]; exact HLT.out
end Go.Proofs.Ytklkhlipecphkaa
