/- Link: one step of a play. -/
import Derived.Test.YtklkhlipecphkaaLy
namespace Go.Proofs.Ytklkhlipecphkaa
open Go.RowKit Go.Joins Go.Maps
set_option maxRecDepth 100000
set_option linter.unusedVariables false

def opAgg (o : OpB) : Value := .agg #[.int .i64 o.k, .int .i64 o.f, .int .i64 o.t, .int .i64 o.i, .int .i64 o.b, .slice o.ob o.lb o.cb]
theorem opc0 {W : World} {b : Nat} {o : OpB} (h : W.heap[b]? = some (opObj o)) : W.cell? ⟨b, 0, none⟩ = some (.int .i64 o.k) := by simp [World.cell?, h, opObj]
theorem op_keeps {w w' : World} {b : Nat} {o : OpB} (hk : Keeps (notT [34, 5, 77, 82]) w w') (h : w.heap[b]? = some (opObj o)) : w'.heap[b]? = some (opObj o) := hk.obj (by decide) h
theorem StepPost.of {w0 : World} {N B M C : Nat} {nodes most : Int} {K : Nat} {A : List Ab} {w w1 w' : World} (hb : Below w.heap.size w w1) (h : LX w0 N B M C nodes most (K + 1) A w') (hk : Keeps (notT [34, 5, 77, 82]) w1 w') : StepPost w0 N B M C nodes most K w (.returned (.bool true)) w' :=
  ⟨rfl, A, h, (Keeps.of_below hb).trans hk⟩
theorem LX.of {w0 : World} {N B M C : Nat} {nodes most : Int} {K : Nat} {f : Lit → Option Value} {n : Nat} {va : Value} {ps rs : List Ml} {w : World} {A : List Ab} (h : LS w0 N B M C nodes most K f n va ps rs w) (h1 : abs ps = A) (h2 : abs rs = A) (hl : A.length ≤ K) : LX w0 N B M C nodes most K A w :=
  ⟨⟨f, n, va, ps, rs, h, h1, h2⟩, hl⟩

set_option maxHeartbeats 4000000 in
theorem step_else {w0 : World} {N B M C : Nat} {nodes most : Int} {K : Nat} {A : List Ab} {w : World} (h : LX w0 N B M C nodes most K A w) (o : OpB) (h1 : o.k ≠ 1) (h2 : o.k ≠ 2) (h3 : o.k ≠ 3) (h4 : o.k ≠ 4) (h5 : o.k ≠ 5) (h6 : o.k ≠ 6) :
    Calls Try.prog 39 #[.pointer (some ⟨B, 0, none⟩), .pointer (some ⟨C, 0, none⟩), opAgg o] w (StepPost w0 N B M C nodes most K w) := by
  have hb : Below w.heap.size w (w.alloc (opObj o)) := (Below.refl _ _).alloc (Nat.le_refl _) _
  have hp : StepPost w0 N B M C nodes most K w (.returned (.bool true)) (w.alloc (opObj o)) := by
    obtain ⟨⟨f, n, va, ps, rs, hls, e1, e2⟩, e3⟩ := h.below hb
    exact StepPost.of hb (LX.of (hls.mono (Nat.le_succ K)) e1 e2 (by omega)) (Keeps.refl _ _)
  have HP := Lib.hid hp
  obtain ⟨k, ff, t, i, b, ob, lb, cb, zs⟩ := o
  dsimp only at h1 h2 h3 h4 h5 h6
  have e1 : (k == 1) = false := by simpa using h1
  have e2 : (k == 2) = false := by simpa using h2
  have e3 : (k == 3) = false := by simpa using h3
  have e4 : (k == 4) = false := by simpa using h4
  have e5 : (k == 5) = false := by simpa using h5
  have e6 : (k == 6) = false := by simpa using h6
  have f1 : decide (k = 1) = false := by simpa using h1
  have f2 : decide (k = 2) = false := by simpa using h2
  have f3 : decide (k = 3) = false := by simpa using h3
  have f4 : decide (k = 4) = false := by simpa using h4
  have f5 : decide (k = 5) = false := by simpa using h5
  have f6 : decide (k = 6) = false := by simpa using h6
  unfold opAgg
  dsimp only
  clear h hb hp h1 h2 h3 h4 h5 h6
  go_enter Try.func39, Try.ntmps39
  go_wp2_with fail
  go_ret
  exact HP.out
set_option maxHeartbeats 4000000 in
theorem step_take {w0 : World} {N B M C : Nat} {nodes most : Int} {K : Nat} {A : List Ab} {w : World} (h : LX w0 N B M C nodes most K A w) (hK : K ≤ 900) (h1 : 0 < nodes) (h2 : nodes ≤ 65) (hm : most ≤ 64) (o : OpB) (wf : (Lit.int .i64 o.f).wf = true) (wt : (Lit.int .i64 o.t).wf = true) (wi : (Lit.int .i64 o.i).wf = true) (hk : o.k = 2) :
    Calls Try.prog 39 #[.pointer (some ⟨B, 0, none⟩), .pointer (some ⟨C, 0, none⟩), opAgg o] w (StepPost w0 N B M C nodes most K w) := by
  have hb : Below w.heap.size w (w.alloc (opObj o)) := (Below.refl _ _).alloc (Nat.le_refl _) _
  have ho : (w.alloc (opObj o)).heap[w.heap.size]? = some (opObj o) := (MapKept.heap_alloc w (opObj o)).1
  obtain ⟨⟨f, n, va, ps, rs, hls, ea, eb⟩, hl⟩ := h.below hb
  obtain ⟨hr3, hr0⟩ := rs_facts hls.p (eb.trans ea.symm)
  have hrl : rs.length ≤ K := by rw [← eb, abs_len] at hl; exact hl
  have hpl : ps.length ≤ K := by rw [← ea, abs_len] at hl; exact hl
  have hn : n < maxLen := by have := hls.hn; unfold maxLen; omega
  obtain ⟨W, hW⟩ : ∃ W, W = w.alloc (opObj o) := ⟨_, rfl⟩
  rw [← hW] at hb ho hls
  have HP := Lib.hid (pTake_any hls.p hn h1 h2 hm o.f o.t o.i)
  obtain ⟨b1, b2, b3, b4, b5⟩ := opcells ho
  have b0 := opc0 ho
  have HB := Lib.hid hb; have HO := Lib.hid ho; have HW := Lib.hid hW
  obtain ⟨k, ff, t, i, b, ob, lb, cb, zs⟩ := o
  dsimp only at hk wf wt wi b0 b1 b2 b3 b4 b5
  have e1 : (k == 1) = false := by simp [hk]
  have f1 : decide (k = 1) = false := by simp [hk]
  have e2 : (k == 2) = true := by simp [hk]
  have f2 : decide (k = 2) = true := by simp [hk]
  unfold opAgg
  unfold opObj at HW
  dsimp only at HW ⊢
  have HLS := Lib.hid hls; have HEA := Lib.hid ea; have HEB := Lib.hid eb; have HR3 := Lib.hid hr3
  clear h hb ho hls ea eb hr3 hr0 hk hW
  dsimp only at HP
  go_enter Try.func39, Try.ntmps39
  go_wp2_with fail
  rw [← HW.out]
  refine HP.out.mono ?_
  rintro e w1 ⟨ov, lv, cv, rfl, -, hrow, hpp⟩
  obtain ⟨f', n', ps', ea', hls1, hk1, -, -⟩ := HLS.out.pstep hpp
  have HROW := Lib.hid hrow; have HLS1 := Lib.hid hls1; have HK1 := Lib.hid hk1; have HEA1 := Lib.hid ea'
  obtain ⟨c1, c2, c3, c4, c5⟩ := opcells (hk1.obj (by decide) HO.out)
  have HQ := Lib.hid (rTake_any hls1.r ff t wi (by omega))
  clear hrow hls1 hk1 ea' hpp HP b0 b1 b2 b3 b4 b5
  dsimp only at c1 c2 c3 c4 c5
  go_wp2_with fail
  refine HQ.out.mono ?_
  rintro e w2 ⟨v2, rfl, hv2, hrd, hrp⟩
  obtain ⟨va', rs', eb', hls2, hk2⟩ := HLS1.out.rstep hrp
  have HLS2 := Lib.hid hls2; have HK2 := Lib.hid hk2; have HEB1 := Lib.hid eb'
  have hrow2 := msg_keeps HROW.out (hk2.weak (fun o ⟨c, fz, e⟩ => ⟨c, 5, fz, e, by decide⟩))
  rw [HEA.out] at hrow2
  rw [HEB.out] at hrd
  have HS := Lib.hid (Same_any (.slice ov lv cv) v2 _ _ w2 (Reads.of_owns hrow2) hrd)
  have hform : ∃ a b c, v2 = .slice a b c := by
    obtain ⟨oa, cap, e, _⟩ := hrd
    exact ⟨_, _, _, e⟩
  have htl : (tTake nodes A ff t i).length ≤ maxLen := by
    rcases hrow2.2 with ⟨e, h0⟩ | ⟨g', cap', cur, e, _, _, hle, hcm, _⟩
    · rw [by8_len] at h0; omega
    · rw [by8_len] at hle; omega
  have HTL := Lib.hid htl
  rw [HEA.out, HEB.out]
  obtain ⟨cc, hcc⟩ : ∃ cc, cc = cName nodes A ff t i := ⟨_, rfl⟩
  rw [← hcc]
  have fin : LX w0 N B M C nodes most (K + 1) (aTake nodes A ff t i) w2 := LX.of hls2 (by rw [HEA1.out, HEA.out]) (by rw [HEB1.out, HEB.out]) (by have := aTake_len nodes A ff t i; omega)
  have HF := Lib.hid fin
  clear hcc hls2 hk2 eb' hrow2 hrd htl hv2 hrp fin HQ c1 c2 c3 c4 c5
  obtain ⟨ov2, lv2, cv2, rfl⟩ := hform
  go_wp2_with fail
  refine (HS.out HTL.out HTL.out).mono ?_
  rintro e w3 ⟨rfl, hb3⟩
  have HB3 := Lib.hid hb3
  have hdec : decide (tTake nodes A ff t i = tTake nodes A ff t i) = true := decide_eq_true rfl
  clear hb3
  go_wp2_with fail
  go_ret
  exact StepPost.of HB.out (HF.out.below HB3.out) ((keeps2 HK1.out HK2.out).trans (Keeps.of_below HB3.out))
set_option maxHeartbeats 4000000 in
theorem step_drop {w0 : World} {N B M C : Nat} {nodes most : Int} {K : Nat} {A : List Ab} {w : World} (h : LX w0 N B M C nodes most K A w) (hK : K ≤ 900) (h1 : 0 < nodes) (h2 : nodes ≤ 65) (hm : most ≤ 64) (o : OpB) (wf : (Lit.int .i64 o.f).wf = true) (wt : (Lit.int .i64 o.t).wf = true) (wi : (Lit.int .i64 o.i).wf = true) (hk : o.k = 3) :
    Calls Try.prog 39 #[.pointer (some ⟨B, 0, none⟩), .pointer (some ⟨C, 0, none⟩), opAgg o] w (StepPost w0 N B M C nodes most K w) := by
  have hb : Below w.heap.size w (w.alloc (opObj o)) := (Below.refl _ _).alloc (Nat.le_refl _) _
  have ho : (w.alloc (opObj o)).heap[w.heap.size]? = some (opObj o) := (MapKept.heap_alloc w (opObj o)).1
  obtain ⟨⟨f, n, va, ps, rs, hls, ea, eb⟩, hl⟩ := h.below hb
  obtain ⟨hr3, hr0⟩ := rs_facts hls.p (eb.trans ea.symm)
  have hrl : rs.length ≤ K := by rw [← eb, abs_len] at hl; exact hl
  have hpl : ps.length ≤ K := by rw [← ea, abs_len] at hl; exact hl
  have hn : n < maxLen := by have := hls.hn; unfold maxLen; omega
  obtain ⟨W, hW⟩ : ∃ W, W = w.alloc (opObj o) := ⟨_, rfl⟩
  rw [← hW] at hb ho hls
  have HQ := Lib.hid (rTake_any hls.r o.f o.t wi (by omega))
  obtain ⟨b1, b2, b3, b4, b5⟩ := opcells ho
  have b0 := opc0 ho
  have HB := Lib.hid hb; have HO := Lib.hid ho; have HW := Lib.hid hW
  obtain ⟨k, ff, t, i, b, ob, lb, cb, zs⟩ := o
  dsimp only at hk wf wt wi b0 b1 b2 b3 b4 b5
  have e1 : (k == 1) = false := by simp [hk]
  have f1 : decide (k = 1) = false := by simp [hk]
  have e2 : (k == 2) = false := by simp [hk]
  have f2 : decide (k = 2) = false := by simp [hk]
  have e3 : (k == 3) = true := by simp [hk]
  have f3 : decide (k = 3) = true := by simp [hk]
  unfold opAgg
  unfold opObj at HW
  dsimp only at HW ⊢
  have HLS := Lib.hid hls; have HEA := Lib.hid ea; have HEB := Lib.hid eb; have HR3 := Lib.hid hr3; have HN := Lib.hid hn
  clear h hb ho hls ea eb hr3 hr0 hk hW hn
  dsimp only at HQ
  go_enter Try.func39, Try.ntmps39
  go_wp2_with fail
  rw [← HW.out]
  refine HQ.out.mono ?_
  rintro e w2 ⟨v2, rfl, hv2, hrd, hrp⟩
  obtain ⟨va', rs', eb', hls2, hk2⟩ := HLS.out.rstep hrp
  have HLS2 := Lib.hid hls2; have HK2 := Lib.hid hk2; have HEB1 := Lib.hid eb'
  have hform : ∃ a b c, v2 = .slice a b c := by
    obtain ⟨oa, cap, e, _⟩ := hrd
    exact ⟨_, _, _, e⟩
  obtain ⟨c1, c2, c3, c4, c5⟩ := opcells (hk2.obj (by decide) HO.out)
  have HP := Lib.hid (pDrop_any hls2.p HN.out h1 h2 hm ff t i)
  clear hls2 hk2 eb' hv2 hrd hrp HQ b0 b1 b2 b3 b4 b5
  obtain ⟨ov2, lv2, cv2, rfl⟩ := hform
  dsimp only at c1 c2 c3 c4 c5
  rw [HEB.out]
  rw [HEA.out] at HP
  obtain ⟨cc, hcc⟩ : ∃ cc, cc = cName nodes A ff t i := ⟨_, rfl⟩
  rw [← hcc] at HP ⊢
  clear hcc
  go_wp2_with fail
  refine HP.out.mono ?_
  rintro e w1 ⟨rfl, hpp⟩
  obtain ⟨f', n', ps', ea', hls1, hk1, -, -⟩ := HLS2.out.pstep hpp
  have fin : LX w0 N B M C nodes most (K + 1) (aTake nodes A ff t i) w1 := LX.of hls1 (by rw [ea']) (by rw [HEB1.out, HEB.out]) (by have := aTake_len nodes A ff t i; omega)
  have HF := Lib.hid fin
  have HK1 := Lib.hid hk1
  clear hls1 hk1 ea' hpp fin HP c1 c2 c3 c4 c5
  go_wp2_with fail
  go_ret
  exact StepPost.of HB.out HF.out (keeps2' HK2.out HK1.out)
set_option maxHeartbeats 8000000 in
theorem step_double {w0 : World} {N B M C : Nat} {nodes most : Int} {K : Nat} {A : List Ab} {w : World} (h : LX w0 N B M C nodes most K A w) (hK : K ≤ 900) (h1 : 0 < nodes) (h2 : nodes ≤ 65) (hm : most ≤ 64) (o : OpB) (wf : (Lit.int .i64 o.f).wf = true) (wt : (Lit.int .i64 o.t).wf = true) (wi : (Lit.int .i64 o.i).wf = true) (hk : o.k = 4) :
    Calls Try.prog 39 #[.pointer (some ⟨B, 0, none⟩), .pointer (some ⟨C, 0, none⟩), opAgg o] w (StepPost w0 N B M C nodes most K w) := by
  have hb : Below w.heap.size w (w.alloc (opObj o)) := (Below.refl _ _).alloc (Nat.le_refl _) _
  have ho : (w.alloc (opObj o)).heap[w.heap.size]? = some (opObj o) := (MapKept.heap_alloc w (opObj o)).1
  obtain ⟨⟨f, n, va, ps, rs, hls, ea, eb⟩, hl⟩ := h.below hb
  obtain ⟨hr3, hr0⟩ := rs_facts hls.p (eb.trans ea.symm)
  have hrl : rs.length ≤ K := by rw [← eb, abs_len] at hl; exact hl
  have hpl : ps.length ≤ K := by rw [← ea, abs_len] at hl; exact hl
  have hn : n < maxLen := by have := hls.hn; unfold maxLen; omega
  obtain ⟨W, hW⟩ : ∃ W, W = w.alloc (opObj o) := ⟨_, rfl⟩
  rw [← hW] at hb ho hls
  have hls1 := hls.below (Below.refl _ W).drew
  have HP := pDouble_any hls1.p hn h1 h2 hm o.f o.t o.i
  have HQ : Hid (∀ f n ps W2, LS w0 N B M C nodes most (K + 1) f n va ps rs W2 → Calls Try.prog 55 #[.pointer (some ⟨C, 0, none⟩), .int .i64 o.f, .int .i64 o.t, .int .i64 o.i] W2 (SPost N C nodes most va rs W2 (cDbl nodes most A o.f o.t o.i) (aDbl nodes most A o.f o.t o.i))) := Lib.hid (fun f n ps W2 hls2 => by
    have := rDouble_any hls2.r o.f o.t wi (by omega) hr3
    rw [eb] at this; exact this)
  have HP2 : Calls Try.prog 29 #[.pointer (some ⟨B, 0, none⟩), .int .i64 o.f, .int .i64 o.t, .int .i64 o.i] W.drew fun e w' => e = .returned (.int .i64 (cDbl nodes most A o.f o.t o.i)) ∧ ∃ f' n' ps', abs ps' = aDbl nodes most A o.f o.t o.i ∧ LS w0 N B M C nodes most (K + 1) f' n' va ps' rs w' ∧ Keeps (notT [34, 5]) W w' := HP.mono (fun e w' hh => by
    obtain ⟨rfl, hpp⟩ := hh
    obtain ⟨f', n', ps', ea', hls1, hk1, -, -⟩ := hls1.pstep hpp
    exact ⟨by rw [ea], f', n', ps', by rw [ea', ea], hls1, (Keeps.of_below (Below.refl _ W).drew).trans hk1⟩)
  have HP2 := Lib.hid HP2
  clear HP
  obtain ⟨b1, b2, b3, b4, b5⟩ := opcells ho
  have b0 := opc0 ho
  have HB := Lib.hid hb; have HO := Lib.hid ho; have HW := Lib.hid hW
  obtain ⟨k, ff, t, i, b, ob, lb, cb, zs⟩ := o
  dsimp only at hk wf wt wi b0 b1 b2 b3 b4 b5
  have e1 : (k == 1) = false := by simp [hk]
  have f1 : decide (k = 1) = false := by simp [hk]
  have e2 : (k == 2) = false := by simp [hk]
  have f2 : decide (k = 2) = false := by simp [hk]
  have e3 : (k == 3) = false := by simp [hk]
  have f3 : decide (k = 3) = false := by simp [hk]
  have e4 : (k == 4) = true := by simp [hk]
  have f4 : decide (k = 4) = true := by simp [hk]
  unfold opAgg
  unfold opObj at HW
  dsimp only at HW ⊢
  have HEB := Lib.hid eb
  clear h hb ho hls hls1 ea eb hr3 hr0 hk hW hn
  dsimp only at HQ HP2
  obtain ⟨cc, hcc⟩ : ∃ cc, cc = cDbl nodes most A ff t i := ⟨_, rfl⟩
  rw [← hcc] at HP2 HQ
  clear hcc
  go_enter Try.func39, Try.ntmps39
  go_wp2_with fail
  rw [← HW.out]
  go_region_held (fun W => W.cell? ⟨w.heap.size, 1, none⟩ = some (.int .i64 ff) ∧ W.cell? ⟨w.heap.size, 2, none⟩ = some (.int .i64 t) ∧ W.cell? ⟨w.heap.size, 3, none⟩ = some (.int .i64 i)) (first | exact ⟨b1, b2, b3⟩ | exact ⟨d1, d2, d3⟩ | exact ⟨c1, c2, c3⟩) (first
    | (go_at_call 29; refine HP2.out.mono ?_; rintro e w1 ⟨rfl, f1, n1, ps1, ea1, hls1, hk1⟩; obtain ⟨c1, c2, c3, c4, c5⟩ := opcells (hk1.obj (by decide) HO.out))
    | (go_at_call 55; refine (HQ.out f1 n1 ps1 _ hls1).mono ?_; rintro e w2 ⟨rfl, hrp⟩; obtain ⟨va2, rs2, eb2, hls2, hk2⟩ := hls1.rstep hrp; obtain ⟨d1, d2, d3, d4, d5⟩ := opcells (hk2.obj (by decide) (hk1.obj (by decide) HO.out))))
  all_goals
    have fin : LX w0 N B M C nodes most (K + 1) (aDbl nodes most A ff t i) w2 := LX.of hls2 ea1 eb2 (by have := aDbl_len nodes most A ff t i; omega)
    have HF := Lib.hid fin
    have HK := Lib.hid (keeps2 hk1 hk2)
    clear hls1 hk1 ea1 hls2 hk2 eb2 hrp fin HP2 HQ
    go_wp2_with fail
    go_ret
    exact StepPost.of HB.out HF.out HK.out
set_option maxHeartbeats 8000000 in
theorem step_flip {w0 : World} {N B M C : Nat} {nodes most : Int} {K : Nat} {A : List Ab} {w : World} (h : LX w0 N B M C nodes most K A w) (hK : K ≤ 900) (h1 : 0 < nodes) (h2 : nodes ≤ 65) (hm : most ≤ 64) (o : OpB) (wf : (Lit.int .i64 o.f).wf = true) (wt : (Lit.int .i64 o.t).wf = true) (wi : (Lit.int .i64 o.i).wf = true) (hk : o.k = 5) :
    Calls Try.prog 39 #[.pointer (some ⟨B, 0, none⟩), .pointer (some ⟨C, 0, none⟩), opAgg o] w (StepPost w0 N B M C nodes most K w) := by
  have hb : Below w.heap.size w (w.alloc (opObj o)) := (Below.refl _ _).alloc (Nat.le_refl _) _
  have ho : (w.alloc (opObj o)).heap[w.heap.size]? = some (opObj o) := (MapKept.heap_alloc w (opObj o)).1
  obtain ⟨⟨f, n, va, ps, rs, hls, ea, eb⟩, hl⟩ := h.below hb
  obtain ⟨hr3, hr0⟩ := rs_facts hls.p (eb.trans ea.symm)
  have hrl : rs.length ≤ K := by rw [← eb, abs_len] at hl; exact hl
  have hpl : ps.length ≤ K := by rw [← ea, abs_len] at hl; exact hl
  have hn : n < maxLen := by have := hls.hn; unfold maxLen; omega
  obtain ⟨W, hW⟩ : ∃ W, W = w.alloc (opObj o) := ⟨_, rfl⟩
  rw [← hW] at hb ho hls
  have hls1 := hls.below (Below.refl _ W).drew
  have HP := pFlip_any hls1.p h1 h2 o.f o.t o.i o.b
  have HQ : Hid (∀ f n ps W2, LS w0 N B M C nodes most (K + 1) f n va ps rs W2 → Calls Try.prog 56 #[.pointer (some ⟨C, 0, none⟩), .int .i64 o.f, .int .i64 o.t, .int .i64 o.i, .int .i64 o.b] W2 (SPost N C nodes most va rs W2 (cFlip nodes A o.f o.t o.i o.b) (aFlip nodes A o.f o.t o.i o.b))) := Lib.hid (fun f n ps W2 hls2 => by
    have := rFlip_any hls2.r o.f o.t wi (by omega) hr3 (bit := o.b)
    rw [eb] at this; exact this)
  have HP2 : Calls Try.prog 30 #[.pointer (some ⟨B, 0, none⟩), .int .i64 o.f, .int .i64 o.t, .int .i64 o.i, .int .i64 o.b] W.drew fun e w' => e = .returned (.int .i64 (cFlip nodes A o.f o.t o.i o.b)) ∧ ∃ f' n' ps', abs ps' = aFlip nodes A o.f o.t o.i o.b ∧ LS w0 N B M C nodes most (K + 1) f' n' va ps' rs w' ∧ Keeps (notT [34, 5]) W w' := HP.mono (fun e w' hh => by
    obtain ⟨rfl, hpp⟩ := hh
    obtain ⟨f', n', ps', ea', hls1, hk1, -, -⟩ := hls1.pstep hpp
    exact ⟨by rw [ea], f', n', ps', by rw [ea', ea], hls1, (Keeps.of_below (Below.refl _ W).drew).trans hk1⟩)
  have HP2 := Lib.hid HP2
  clear HP
  obtain ⟨b1, b2, b3, b4, b5⟩ := opcells ho
  have b0 := opc0 ho
  have HB := Lib.hid hb; have HO := Lib.hid ho; have HW := Lib.hid hW
  obtain ⟨k, ff, t, i, b, ob, lb, cb, zs⟩ := o
  dsimp only at hk wf wt wi b0 b1 b2 b3 b4 b5
  have e1 : (k == 1) = false := by simp [hk]
  have f1 : decide (k = 1) = false := by simp [hk]
  have e2 : (k == 2) = false := by simp [hk]
  have f2 : decide (k = 2) = false := by simp [hk]
  have e3 : (k == 3) = false := by simp [hk]
  have f3 : decide (k = 3) = false := by simp [hk]
  have e4 : (k == 4) = false := by simp [hk]
  have f4 : decide (k = 4) = false := by simp [hk]
  have e5 : (k == 5) = true := by simp [hk]
  have f5 : decide (k = 5) = true := by simp [hk]
  unfold opAgg
  unfold opObj at HW
  dsimp only at HW ⊢
  have HEB := Lib.hid eb
  clear h hb ho hls hls1 ea eb hr3 hr0 hk hW hn
  dsimp only at HQ HP2
  obtain ⟨cc, hcc⟩ : ∃ cc, cc = cFlip nodes A ff t i b := ⟨_, rfl⟩
  rw [← hcc] at HP2 HQ
  clear hcc
  go_enter Try.func39, Try.ntmps39
  go_wp2_with fail
  rw [← HW.out]
  go_region_held (fun W => W.cell? ⟨w.heap.size, 1, none⟩ = some (.int .i64 ff) ∧ W.cell? ⟨w.heap.size, 2, none⟩ = some (.int .i64 t) ∧ W.cell? ⟨w.heap.size, 3, none⟩ = some (.int .i64 i) ∧ W.cell? ⟨w.heap.size, 4, none⟩ = some (.int .i64 b)) (first | exact ⟨b1, b2, b3, b4⟩ | exact ⟨d1, d2, d3, d4⟩ | exact ⟨c1, c2, c3, c4⟩) (first
    | (go_at_call 30; refine HP2.out.mono ?_; rintro e w1 ⟨rfl, f1, n1, ps1, ea1, hls1, hk1⟩; obtain ⟨c1, c2, c3, c4, c5⟩ := opcells (hk1.obj (by decide) HO.out))
    | (go_at_call 56; refine (HQ.out f1 n1 ps1 _ hls1).mono ?_; rintro e w2 ⟨rfl, hrp⟩; obtain ⟨va2, rs2, eb2, hls2, hk2⟩ := hls1.rstep hrp; obtain ⟨d1, d2, d3, d4, d5⟩ := opcells (hk2.obj (by decide) (hk1.obj (by decide) HO.out))))
  all_goals
    have fin : LX w0 N B M C nodes most (K + 1) (aFlip nodes A ff t i b) w2 := LX.of hls2 ea1 eb2 (by have := aFlip_len nodes A ff t i b; omega)
    have HF := Lib.hid fin
    have HK := Lib.hid (keeps2 hk1 hk2)
    clear hls1 hk1 ea1 hls2 hk2 eb2 hrp fin HP2 HQ
    go_wp2_with fail
    go_ret
    exact StepPost.of HB.out HF.out HK.out
set_option maxHeartbeats 4000000 in
theorem step_next {w0 : World} {N B M C : Nat} {nodes most : Int} {K : Nat} {A : List Ab} {w : World} (h : LX w0 N B M C nodes most K A w) (hK : K ≤ 900) (h1 : 0 < nodes) (h2 : nodes ≤ 65) (hm : most ≤ 64) (o : OpB) (wf : (Lit.int .i64 o.f).wf = true) (wt : (Lit.int .i64 o.t).wf = true) (wi : (Lit.int .i64 o.i).wf = true) (hk : o.k = 6) :
    Calls Try.prog 39 #[.pointer (some ⟨B, 0, none⟩), .pointer (some ⟨C, 0, none⟩), opAgg o] w (StepPost w0 N B M C nodes most K w) := by
  have hb : Below w.heap.size w (w.alloc (opObj o)) := (Below.refl _ _).alloc (Nat.le_refl _) _
  have ho : (w.alloc (opObj o)).heap[w.heap.size]? = some (opObj o) := (MapKept.heap_alloc w (opObj o)).1
  obtain ⟨⟨f, n, va, ps, rs, hls, ea, eb⟩, hl⟩ := h.below hb
  obtain ⟨hr3, hr0⟩ := rs_facts hls.p (eb.trans ea.symm)
  have hrl : rs.length ≤ K := by rw [← eb, abs_len] at hl; exact hl
  have hpl : ps.length ≤ K := by rw [← ea, abs_len] at hl; exact hl
  have hn : n < maxLen := by have := hls.hn; unfold maxLen; omega
  obtain ⟨W, hW⟩ : ∃ W, W = w.alloc (opObj o) := ⟨_, rfl⟩
  rw [← hW] at hb ho hls
  have HP := pNext_any hls.p h1 h2 wt
  have HQ := rNext_any hls.r o.t (by omega) hr0
  have HQ2 : Calls Try.prog 57 #[.pointer (some ⟨C, 0, none⟩), .int .i64 o.t] W fun e w' => ∃ y, e = .returned (.int .i64 y) ∧ IsFrom A o.t (max y 0) (decide (0 ≤ y)) ∧ w' = W := HQ.mono (fun e w' hh => by
    obtain ⟨y, he, hy, hw⟩ := hh
    have := best_from hy hr0
    rw [eb] at this
    exact ⟨y, he, this, hw⟩)
  rw [ea] at HP
  have fin : StepPost w0 N B M C nodes most K w (.returned (.bool true)) W := StepPost.of hb (LX.of (hls.mono (Nat.le_succ K)) ea eb (by omega)) (Keeps.refl _ _)
  have HF := Lib.hid fin
  have HP := Lib.hid HP
  have HQ := Lib.hid HQ2
  obtain ⟨b1, b2, b3, b4, b5⟩ := opcells ho
  have b0 := opc0 ho
  have HB := Lib.hid hb; have HO := Lib.hid ho; have HW := Lib.hid hW
  obtain ⟨k, ff, t, i, b, ob, lb, cb, zs⟩ := o
  dsimp only at hk wf wt wi b0 b1 b2 b3 b4 b5
  have e1 : (k == 1) = false := by simp [hk]
  have f1 : decide (k = 1) = false := by simp [hk]
  have e2 : (k == 2) = false := by simp [hk]
  have f2 : decide (k = 2) = false := by simp [hk]
  have e3 : (k == 3) = false := by simp [hk]
  have f3 : decide (k = 3) = false := by simp [hk]
  have e4 : (k == 4) = false := by simp [hk]
  have f4 : decide (k = 4) = false := by simp [hk]
  have e5 : (k == 5) = false := by simp [hk]
  have f5 : decide (k = 5) = false := by simp [hk]
  have e6 : (k == 6) = true := by simp [hk]
  have f6 : decide (k = 6) = true := by simp [hk]
  unfold opAgg
  unfold opObj at HW
  dsimp only at HW ⊢
  clear h hb ho hls ea eb hr3 hr0 hk hW hn HQ2 fin
  dsimp only at HQ HP
  go_enter Try.func39, Try.ntmps39
  go_wp2_with fail
  rw [← HW.out]
  refine HP.out.mono ?_
  rintro e w1 ⟨x, ok, rfl, hx, rfl⟩
  have HX := Lib.hid hx
  clear hx
  go_wp2_with fail
  refine HQ.out.mono ?_
  rintro e w1 ⟨y, rfl, hy, rfl⟩
  obtain ⟨hxy, hok⟩ := HX.out.inj hy
  clear hy HP HQ
  by_cases h0 : 0 ≤ y
  · obtain rfl : x = y := by omega
    have d0 : decide (0 ≤ x) = true := decide_eq_true h0
    rw [d0] at hok
    subst hok
    have hmx : max x 0 = x := by omega
    have HH := Lib.hid hmx
    clear hxy hmx
    go_wp2_with fail
    go_ret
    exact HF.out
  · have d0 : decide (0 ≤ y) = false := decide_eq_false h0
    rw [d0] at hok
    subst hok
    have hmx : max y 0 = 0 := by omega
    rw [hmx] at hxy
    subst hxy
    go_wp2_with fail
    go_ret
    exact HF.out
end Go.Proofs.Ytklkhlipecphkaa
