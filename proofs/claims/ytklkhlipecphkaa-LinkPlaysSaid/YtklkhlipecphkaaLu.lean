/- Link: the document's line: Take, Double, Flip. -/
import Derived.Test.YtklkhlipecphkaaLt
namespace Go.Proofs.Ytklkhlipecphkaa
open Go.RowKit Go.Joins Go.Maps
set_option maxRecDepth 100000
set_option linter.unusedVariables false

theorem mcells_take (rs : List Ml) (k : Nat) : mcells (rs.take k) = (mcells rs).take (k * 3) := by
  induction rs generalizing k with
  | nil => simp [mcells]
  | cons t L ih =>
    cases k with
    | zero => simp [mcells]
    | succ k =>
      rw [List.take_succ_cons, mcells_cons, mcells_cons, ih, List.take_append, show (mcell t).length = 3 from rfl, show (k + 1) * 3 - 3 = k * 3 by omega, List.take_of_length_le (l := mcell t) (by show 3 ≤ (k + 1) * 3; omega)]
theorem mcells_drop (rs : List Ml) (k : Nat) : mcells (rs.drop k) = (mcells rs).drop (k * 3) := by
  induction rs generalizing k with
  | nil => simp [mcells]
  | cons t L ih =>
    cases k with
    | zero => simp
    | succ k =>
      rw [List.drop_succ_cons, mcells_cons, ih, List.drop_append, show (mcell t).length = 3 from rfl, show (k + 1) * 3 - 3 = k * 3 by omega, List.drop_of_length_le (l := mcell t) (by show 3 ≤ (k + 1) * 3; omega), List.nil_append]
theorem mcells_erase (rs : List Ml) (k : Nat) : mcells (rs.take k) ++ mcells (rs.drop (k + 1)) = mcells (rs.eraseIdx k) := by
  rw [List.eraseIdx_eq_take_drop_succ, mcells_append]
theorem mcells_set : ∀ (rs : List Ml) (k : Nat) (m m' : Ml), rs[k]? = some m → m'.f = m.f → m'.t = m.t → mcells (rs.set k m') = (mcells rs).set (k * 3 + 2) m'.v
  | [], k, m, m', h, _, _ => by simp at h
  | x :: l, 0, m, m', h, hf, ht => by
    simp at h; subst h
    simp [mcells_cons, mcell, hf, ht]
  | x :: l, k + 1, m, m', h, hf, ht => by
    have := mcells_set l k m m' (by simpa using h) hf ht
    rw [List.set_cons_succ, mcells_cons, mcells_cons, this, show (k + 1) * 3 + 2 = (k * 3 + 2) + 3 by omega]
    simp [mcell]
theorem mcells_one {w : World} {N : Nat} {rs : List Ml} (h : ∀ m ∈ rs, w.ownsRow N 5 1 m.v (by8 m.L).length (by8 m.L)) : ∀ u ∈ mcells rs, u.oneCell' = true := fun u hu => by
  obtain ⟨m, hm, hu⟩ := List.mem_flatMap.1 hu
  exact mcell_one (own_one (h m hm)) u hu
theorem slice_tail3 (g m cap i : Nat) (hi : i + 1 ≤ m) (W : World) : (Instr.slice 75 (.slice (some ⟨g, 0, none⟩) m cap) (some (.int .i64 ((i : Int) + 1))) none none).run Try.prog W = .ok (.slice (some (if cap = i + 1 then ⟨g, 0, none⟩ else ⟨g, (i + 1) * 3, none⟩)) (m - (i + 1)) (cap - (i + 1))) W := by
  rw [run_slice_l (P := Try.prog) W 75 _ m cap (by kernel_rfl) .i64 ((i : Int) + 1) (by omega) (by omega)]
  have e : ((i : Int) + 1).toNat = i + 1 := by omega
  have z : (sizeOf (Try.prog.elem 75)).run Try.prog W = .ok 3 W := by kernel_rfl
  rw [z, e]
  simp only [Result.andThen, sliced]
  split
  · rfl
  · rw [Option.map_some, add_plain, Nat.zero_add]

set_option maxHeartbeats 2000000 in
theorem rTake_bad {N C : Nat} {nodes most : Int} {va : Value} {rs : List Ml} {w : World} (h : RH N C nodes most va rs w) (a b : Int) {i c : Int} (hi : (Lit.int .i64 i).wf = true) (hl : rs.length ≤ 1000) (hc : cName nodes (abs rs) a b i = c) (h0 : c ≠ 0) :
    Calls Try.prog 43 #[.pointer (some ⟨C, 0, none⟩), .int .i64 a, .int .i64 b, .int .i64 i] w fun e w' => e = .returned (.tuple #[.slice none 0 0, .int .i64 c]) ∧ w' = w := by
  have HA := rNamed_any h a b hi hl
  rw [hc] at HA
  have HA := Lib.hid HA
  have z1 : (c != 0) = true := by simpa using h0
  have z2 : (c == 0) = false := by simpa using h0
  have z3 : decide (c = 0) = false := by simpa using h0
  clear h hc h0 hi hl
  go_enter Try.func43, Try.ntmps43
  go_wp2_with fail
  refine HA.out.mono ?_
  rintro e w1 ⟨rfl, rfl⟩
  go_wp2_with fail
  go_ret2
  exact ⟨rfl, rfl⟩
theorem named_zero {nodes : Int} {rs : List Ml} {a b i : Int} (h : cName nodes (abs rs) a b i = 0) : OkW nodes a b ∧ 0 ≤ i ∧ ∃ k m, pos (wayM a b) rs i.toNat = some k ∧ rs[k]? = some m ∧ m.f = a ∧ m.t = b ∧ posI a b i (abs rs) = some k ∧ posZ a b i (abs rs) = k ∧ tTake nodes (abs rs) a b i = m.L := by
  unfold cName at h
  by_cases ho : OkW nodes a b
  · rw [if_pos ho] at h
    cases hp : posI a b i (abs rs) with
    | none => rw [hp] at h; simp at h
    | some k =>
      have hi : 0 ≤ i := by
        by_cases hn : i < 0
        · rw [posI, if_pos hn] at hp; cases hp
        · omega
      have hp2 := hp
      rw [posI, if_neg (by omega), abs_pos] at hp2
      obtain ⟨m, hm, hw, _⟩ := pos_some hp2
      have hw := wayM_iff.1 hw
      refine ⟨ho, hi, k, m, hp2, hm, hw.1, hw.2, rfl, by unfold posZ; rw [hp], ?_⟩
      unfold tTake
      rw [if_pos ho, hp]
      simp [abs_get, hm, Ml.ab]
  · rw [if_neg ho] at h; cases h

def TPost (N C : Nat) (nodes most : Int) (va : Value) (rs : List Ml) (w : World) (a b i : Int) (e : Ending) (w' : World) : Prop :=
  ∃ v, e = .returned (.tuple #[v, .int .i64 (cName nodes (abs rs) a b i)]) ∧ (v = .slice none 0 0 ∨ ∃ r ∈ rs, r.v = v) ∧ Reads w' v (tTake nodes (abs rs) a b i) ∧ RPost N C nodes most va rs w (aTake nodes (abs rs) a b i) w'
theorem Reads.nil (w : World) : Reads w (.slice none 0 0) [] := ⟨none, 0, rfl, fun j hj => absurd hj (by simp)⟩
set_option maxHeartbeats 4000000 in
theorem rTake_ok {N C : Nat} {nodes most : Int} {va : Value} {rs : List Ml} {w : World} (h : RH N C nodes most va rs w) (a b : Int) {i : Int} (hi : (Lit.int .i64 i).wf = true) (hl : rs.length ≤ 1000) (hc : cName nodes (abs rs) a b i = 0) :
    Calls Try.prog 43 #[.pointer (some ⟨C, 0, none⟩), .int .i64 a, .int .i64 b, .int .i64 i] w (TPost N C nodes most va rs w a b i) := by
  obtain ⟨ho, h0i, k, m, hpos, hm, hmf, hmt, hpi, hpz, htt⟩ := named_zero hc
  have HA := rNamed_any h a b hi hl
  rw [hc] at HA
  have HB := rAt_any h a b hi hl
  rw [hpz] at HB
  have HA := Lib.hid HA; have HB := Lib.hid HB
  obtain ⟨i0, ti, hz0, hz1, hz2⟩ := info_parts info82
  have hkl := (List.getElem?_eq_some_iff.1 hm).1
  have hNs : N ≤ w.heap.size := Nat.le_trans h.hC (Nat.le_of_lt h.lt)
  have hvr := h.msg m (List.mem_of_getElem? hm)
  obtain ⟨n, hn⟩ : ∃ n, n = rs.length := ⟨_, rfl⟩
  have hrow := h.row
  rw [← hn] at hkl hl hrow
  obtain ⟨g, cap, rfl⟩ : ∃ g cap, va = .slice (some ⟨g, 0, none⟩) n cap := by
    rcases ownsRow_forms hrow with ⟨_, h0⟩ | ⟨g, cp, h⟩
    · omega
    · exact ⟨g, cp, h⟩
  have hncap : n ≤ cap := by
    rcases hrow.2 with ⟨e, -⟩ | ⟨g', cap', cur, e, _, _, hle, _⟩
    · simp at e
    · cases e; exact hle
  have hcell : ∀ (j : Nat) (x : Value), (mcells rs)[j]? = some x → w.cell? ⟨g, j, none⟩ = some x := fun j x hx => by
    rw [hrow.cellAt j (by have := (List.getElem?_eq_some_iff.1 hx).1; rw [mcells_length, ← hn] at this; exact this)]; exact hx
  have hglt : g < w.heap.size := (hrow.lt g rfl).2
  have hone := mcells_one h.msg
  obtain ⟨r1, W1, hr1, own1, hg1, -⟩ := run_append_own w w.heap.size 75 75 82 i0 (.agg #[.int .i64 0, .int .i64 0, .slice none 0 0]) 3 40 rfl ti hz0 hz1 hz2 rfl (by decide) (.slice none 0 0) 0 [] (World.ownsRow_nil _ _ _ _) ⟨g, 0, none⟩ k cap (mcells (rs.take k)) (by rw [mcells_length, List.length_take]; omega)
    (fun j x hx => by
      rw [add_plain, Nat.zero_add]
      rw [mcells_take, List.getElem?_take] at hx
      split at hx
      · exact hcell j x hx
      · cases hx) (fun x hx => hone x (by rw [mcells_take] at hx; exact List.mem_of_mem_take hx)) (by simp only [maxLen]; omega) (by omega) (Nat.le_refl _)
  rw [Nat.zero_add, List.nil_append] at own1
  have b1 := below_of_grown hg1
  have s1 := hg1.size
  have hst := slice_tail3 g n cap k hkl
  obtain ⟨a2, ha2⟩ : ∃ a2 : Addr, a2 = if cap = k + 1 then ⟨g, 0, none⟩ else ⟨g, (k + 1) * 3, none⟩ := ⟨_, rfl⟩
  rw [← ha2] at hst
  obtain ⟨r2, W2, hr2, own2, hg2, -⟩ := run_append_own W1 w.heap.size 75 75 82 i0 (.agg #[.int .i64 0, .int .i64 0, .slice none 0 0]) 3 40 rfl ti hz0 hz1 hz2 rfl (by decide) r1 k (mcells (rs.take k)) own1 a2 (n - (k + 1)) (cap - (k + 1)) (mcells (rs.drop (k + 1))) (by rw [mcells_length, List.length_drop]; omega)
    (fun j x hx => by
      have hx2 := hx
      rw [mcells_drop, List.getElem?_drop] at hx
      have hlt2 := (List.getElem?_eq_some_iff.1 hx).1
      rw [mcells_length] at hlt2
      rw [ha2, if_neg (by omega), add_plain, b1.cell hglt]
      exact hcell _ x hx) (fun x hx => hone x (by rw [mcells_drop] at hx; exact List.mem_of_mem_drop hx)) (by simp only [maxLen]; omega) (by omega) s1
  have b2 : Below w.heap.size w W2 := b1.grown hg2 s1 (fun q e => (own1.lt q e).1)
  rw [mcells_erase, show k + (n - (k + 1)) = (rs.eraseIdx k).length by rw [List.length_eraseIdx_of_lt (by omega)]; omega] at own2
  obtain ⟨q, hq⟩ : ∃ q, q = (rs.eraseIdx k).length := ⟨_, rfl⟩
  have h2 := h.below b2
  have c2 := h.c2
  have c21 := (h.below b1).c2
  have c22 := h2.c2
  have f22 := h2.fz 2
  obtain ⟨m0, m1, m2⟩ := mcells_get rs k m hm
  have cm := hcell _ _ m2
  have post : TPost N C nodes most (.slice (some ⟨g, 0, none⟩) n cap) rs w a b i (.returned (.tuple #[m.v, .int .i64 0])) (W2.setCell ⟨C, 2, none⟩ r2) := by
    have hst2 := RPost.mk (W := W2) (va' := r2) (rs' := rs.eraseIdx k) h ((Chg.of_below (S := fun _ => False) b2).wide (fun _ _ s => s.elim)) (b2.block C h.lt) (row_mono own2 hNs) (fun m' hm' => row_below (h.msg m' (mem_erase_of hm')) b2) (fun r hr => .inl ⟨r, mem_erase_of hr, rfl⟩)
    obtain ⟨va', rs', e1, e2, e3, e4⟩ := id hst2
    refine ⟨m.v, by rw [hc], .inr ⟨m, List.mem_of_getElem? hm, rfl⟩, ?_, ?_⟩
    · rw [htt]
      exact Reads.of_owns (row_chg hvr e3 (fun j ej s => by
        rcases s with s | s
        · exact own_not hvr h.box (by decide) (s ▸ ej)
        · exact own_apart (C := 0) (B := 0) hrow hvr (by decide) s.symm ej))
    · have : aTake nodes (abs rs) a b i = abs (rs.eraseIdx k) := by
        unfold aTake; rw [if_pos ho, hpi]; exact (abs_erase rs k).symm
      rw [this]; exact hst2
  obtain ⟨o2, cv2, hr⟩ : ∃ o2 c3, r2 = .slice o2 q c3 := by
    rw [← hq] at own2
    rcases ownsRow_forms own2 with ⟨h, h0⟩ | ⟨g, cp, h⟩
    · exact ⟨none, 0, by rw [h, h0]⟩
    · exact ⟨_, cp, h⟩
  obtain ⟨v, hv⟩ : ∃ v, v = m.v := ⟨_, rfl⟩
  rw [← hv] at cm hvr post
  obtain ⟨ov, lv, cv, hvf⟩ : ∃ ov lv cv, v = .slice ov lv cv := by
    rcases ownsRow_forms hvr with ⟨h, h0⟩ | ⟨g, cp, h⟩
    · exact ⟨_, _, _, h⟩
    · exact ⟨_, _, _, h⟩
  have hkc : k ≤ cap := by omega
  have HP := Lib.hid post; have HST := Lib.hid hst
  have hwr : IntKind.i64.wrap ((k : Int) + 1) = (k : Int) + 1 := by rw [IntKind.wrap_i64]; omega
  clear h ho h0i hpos hm hmf hmt hpi hpz htt hn hrow hvr hcell hone own1 own2 hg1 hg2 b1 b2 h2 ha2 hq hv post m0 m1 m2 hc hi hglt s1 hNs
  subst hr hvf
  go_enter Try.func43, Try.ntmps43
  go_wp2_with fail
  refine HA.out.mono ?_
  rintro e w1 ⟨rfl, rfl⟩
  go_wp2_with fail
  refine HB.out.mono ?_
  rintro e w1 ⟨rfl, rfl⟩
  go_wp2_with (first
      | (at_builtin; refine wpList_append_run rfl rfl (s := .tmp 35) (x := .tmp 41) (t := 75) rfl rfl hr1 ?_)
      | (at_builtin; refine wpList_append_run rfl rfl (s := .tmp 44) (x := .tmp 51) (t := 75) rfl rfl hr2 ?_))
  go_ret2
  exact HP.out
theorem rTake_any {N C : Nat} {nodes most : Int} {va : Value} {rs : List Ml} {w : World} (h : RH N C nodes most va rs w) (a b : Int) {i : Int} (hi : (Lit.int .i64 i).wf = true) (hl : rs.length ≤ 1000) :
    Calls Try.prog 43 #[.pointer (some ⟨C, 0, none⟩), .int .i64 a, .int .i64 b, .int .i64 i] w (TPost N C nodes most va rs w a b i) := by
  by_cases hc : cName nodes (abs rs) a b i = 0
  · exact rTake_ok h a b hi hl hc
  · refine (rTake_bad h a b hi hl rfl hc).mono ?_
    rintro e w' ⟨rfl, rfl⟩
    have hA : aTake nodes (abs rs) a b i = abs rs ∧ tTake nodes (abs rs) a b i = [] := by
      unfold cName at hc; unfold aTake tTake
      by_cases ho : OkW nodes a b
      · rw [if_pos ho] at hc ⊢
        cases hp : posI a b i (abs rs) with
        | none => simp [ho]
        | some k => rw [hp] at hc; simp at hc
      · simp [ho]
    refine ⟨_, rfl, .inl rfl, ?_, ?_⟩
    · rw [hA.2]; exact Reads.nil _
    · rw [hA.1]; exact RPost.same h (Below.refl _ _)
end Go.Proofs.Ytklkhlipecphkaa
