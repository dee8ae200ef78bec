/- Link: the document's line: Send, Take, Double, Flip. -/
import Derived.Test.YtklkhlipecphkaaLs
namespace Go.Proofs.Ytklkhlipecphkaa
open Go.RowKit Go.Joins Go.Maps
set_option maxRecDepth 100000
set_option linter.unusedVariables false

theorem info82 : (Try.prog.info? 82).map (fun i => (i.zero, i.size, i.bytes)) = some (some (.agg #[.int .i64 0, .int .i64 0, .slice none 0 0]), 3, 40) := by kernel_rfl
theorem copy_run {w : World} {sv : Value} {bs : List Value} (hs : Src w sv bs) (hlen : bs.length ≤ 70000) (h1c : ∀ u ∈ bs, u.oneCell' = true) :
    ∃ u W', (Builtin.append_ #[34, 34] 34 #[.slice none 0 0, sv]).run Try.prog w = .ok u W' ∧ W'.ownsRow w.heap.size 5 1 u bs.length bs ∧ w.grownBy W' none := by
  obtain ⟨i5, gi, gz0, gz1, gz2⟩ := info_parts info5
  rcases hs with ⟨ad, cap, rfl, hc⟩ | ⟨rfl, rfl⟩
  · obtain ⟨u', W3, hr1, own1, hg1, -⟩ := run_append_own w w.heap.size 34 34 5 i5 (.int .u8 0) 1 1 rfl gi gz0 gz1 gz2 rfl (by decide) (.slice none 0 0) 0 [] (World.ownsRow_nil _ _ _ _) ad bs.length cap bs (by omega) hc h1c (by simp only [maxLen]; omega) (by omega) (by omega)
    rw [Nat.zero_add, List.nil_append] at own1
    exact ⟨u', W3, hr1, own1, hg1⟩
  · exact ⟨_, w, run_append_owned_none w w.heap.size 34 34 5 i5 1 rfl gi _ 0 [] (World.ownsRow_nil _ _ _ _), World.ownsRow_nil _ _ _ _, World.grownBy.refl _ _⟩

theorem own_apart {w : World} {B C n m base base' : Nat} {v u : Value} {xs ys : List Value} {e e' size size' : Nat} (h : w.ownsRow base e size v n xs) (k : w.ownsRow base' e' size' u m ys) (hne : e ≠ e') {j : Nat} (hj : v.ownBlock = some j) : u.ownBlock ≠ some j := fun e2 => by
  obtain ⟨c1, h1⟩ := row_type h hj
  obtain ⟨c2, h2⟩ := row_type k e2
  rw [h1] at h2; simp at h2; exact hne h2.2
theorem own_not {w : World} {C n base : Nat} {v : Value} {xs : List Value} {e size : Nat} {c : Array Value} {t : TypeId} {fz : Nat × Nat} (h : w.ownsRow base e size v n xs) (hb : w.heap[C]? = some (.cells c t fz)) (hne : t ≠ e) : v.ownBlock ≠ some C := fun e2 => by
  obtain ⟨c1, h1⟩ := row_type h e2
  rw [h1] at hb; simp at hb; exact hne hb.2.1.symm

/-- The document's list laid anew. -/
theorem RH.store {N C : Nat} {nodes most : Int} {va va' : Value} {rs' : List Ml} {w : World} (hC : N ≤ C) (hb : w.heap[C]? = some (.cells #[.int .i64 nodes, .int .i64 most, va] 77 (0, 0)))
    (hr : w.ownsRow N 82 3 va' rs'.length (mcells rs')) (hm : ∀ m ∈ rs', w.ownsRow N 5 1 m.v (by8 m.L).length (by8 m.L)) : RH N C nodes most va' rs' (w.setCell ⟨C, 2, none⟩ va') := by
  refine ⟨hC, (heap_setCell_same w C 2 _ _ va' hb).trans rfl, hr.kept (grown_set _ _ _) ?_, fun m h => (hm m h).kept (grown_set _ _ _) ?_⟩
  · cases e : va'.ownBlock with
    | none => exact .inl rfl
    | some j => exact .inr (by rw [← e]; exact own_not hr hb (by decide))
  · cases e : m.v.ownBlock with
    | none => exact .inl rfl
    | some j => exact .inr (by rw [← e]; exact own_not (hm m h) hb (by decide))

def RPost (N C : Nat) (nodes most : Int) (va : Value) (rs : List Ml) (w : World) (A : List Ab) (w' : World) : Prop :=
  ∃ va' rs', abs rs' = A ∧ RH N C nodes most va' rs' w' ∧ Chg (fun k => k = C ∨ some k = va.ownBlock) w w' ∧ ∀ r ∈ rs', (∃ r0 ∈ rs, r0.v = r.v) ∨ ∀ k, r.v.ownBlock = some k → w.heap.size ≤ k
theorem RPost.same {N C : Nat} {nodes most : Int} {va : Value} {rs : List Ml} {w w' : World} (h : RH N C nodes most va rs w) (hb : Below w.heap.size w w') : RPost N C nodes most va rs w (abs rs) w' :=
  ⟨va, rs, rfl, h.below hb, (Chg.of_below (S := fun _ => False) hb).trans (Chg.of_below (S := fun _ => False) (Below.refl _ _)) (fun _ _ h => h.elim) (fun _ _ h => h.elim), fun r hr => .inl ⟨r, hr, rfl⟩⟩
def SPost (N C : Nat) (nodes most : Int) (va : Value) (rs : List Ml) (w : World) (c : Int) (A : List Ab) (e : Ending) (w' : World) : Prop := e = .returned (.int .i64 c) ∧ RPost N C nodes most va rs w A w'

set_option maxHeartbeats 2000000 in
theorem rSend_bad {N C : Nat} {nodes most : Int} {va : Value} {rs : List Ml} {w : World} (h : RH N C nodes most va rs w) {a b : Int} (ho : ¬ OkW nodes a b) (u : Value) :
    Calls Try.prog 54 #[.pointer (some ⟨C, 0, none⟩), .int .i64 a, .int .i64 b, u] w fun e w' => e = .returned (.int .i64 190) ∧ w' = w := by
  have HA := rAsked_any h a b
  rw [cAsk, if_neg ho] at HA
  have HA := Lib.hid HA
  clear h ho
  go_enter Try.func54, Try.ntmps54
  go_wp2_with fail
  refine HA.out.mono ?_
  rintro e w1 ⟨rfl, rfl⟩
  go_wp2_with fail
  go_ret
  exact ⟨rfl, rfl⟩
set_option maxHeartbeats 2000000 in
theorem rSend_full {N C : Nat} {nodes most : Int} {va : Value} {rs : List Ml} {w : World} (h : RH N C nodes most va rs w) {a b : Int} (ho : OkW nodes a b) (hl : rs.length ≤ 1000) (oad : Option Addr) (len cap : Nat) (hlen : len ≤ 65548) (hf : most ≤ (nw (abs rs) a b : Int)) :
    Calls Try.prog 54 #[.pointer (some ⟨C, 0, none⟩), .int .i64 a, .int .i64 b, .slice oad len cap] w fun e w' => e = .returned (.int .i64 170) ∧ w' = w.drew := by
  have HA := rAsked_any h a b
  rw [cAsk, if_pos ho] at HA
  have HA := Lib.hid HA
  have c1 := h.c1
  obtain ⟨q, hq⟩ : ∃ q, q = nw (abs rs) a b := ⟨_, rfl⟩
  have HB := rWaits_any h a b hl
  have HB2 : ∀ W, W = w ∨ W = w.drew → Calls Try.prog 40 #[.pointer (some ⟨C, 0, none⟩), .int .i64 a, .int .i64 b] W fun e w' => e = .returned (.int .i64 (q : Int)) ∧ w' = W := fun W hW => by
    rw [hq]
    rcases hW with rfl | rfl
    · exact HB
    · exact rWaits_any (h.below (Below.refl _ _).drew) a b hl
  rw [← hq] at hf
  have HB2 := Lib.hid HB2
  have d1 : decide (65548 < (len : Int)) = false := decide_eq_false (by omega)
  have d2 : decide (most ≤ (q : Int)) = true := decide_eq_true hf
  clear h ho hq HB
  go_enter Try.func54, Try.ntmps54
  go_wp2_with fail
  refine HA.out.mono ?_
  rintro e w1 ⟨rfl, rfl⟩
  go_wp2_with fail
  go_region_with (go_at_call 40; refine (HB2.out _ (by first | exact .inl rfl | exact .inr rfl)).mono ?_; rintro e w2 ⟨rfl, rfl⟩)
  all_goals
    go_wp2_with fail
    go_ret
    exact ⟨rfl, rfl⟩

theorem below_of_grown {w w' : World} (h : w.grownBy w' none) : Below w.heap.size w w' := ⟨h.os, h.tape, h.output, h.size, fun k hk => h.block k hk (by simp)⟩
theorem chg_refl (S : Nat → Prop) (w : World) : Chg S w w := ⟨rfl, rfl, rfl, Nat.le_refl _, fun _ _ _ => rfl⟩
theorem Chg.wide {S T : Nat → Prop} {w w' : World} (h : Chg S w w') (hs : ∀ k, k < w.heap.size → S k → T k) : Chg T w w' := h.trans (chg_refl (fun _ => False) _) hs (fun _ _ h => h.elim)
theorem RPost.mk {N C : Nat} {nodes most : Int} {va va' : Value} {rs rs' : List Ml} {w W : World} (h : RH N C nodes most va rs w) (hc : Chg (fun k => k = C ∨ some k = va.ownBlock) w W) (hb : W.heap[C]? = w.heap[C]?)
    (hr : W.ownsRow N 82 3 va' rs'.length (mcells rs')) (hm : ∀ m ∈ rs', W.ownsRow N 5 1 m.v (by8 m.L).length (by8 m.L)) (hf : ∀ r ∈ rs', (∃ r0 ∈ rs, r0.v = r.v) ∨ ∀ k, r.v.ownBlock = some k → w.heap.size ≤ k) :
    RPost N C nodes most va rs w (abs rs') (W.setCell ⟨C, 2, none⟩ va') :=
  ⟨va', rs', rfl, RH.store h.hC (hb.trans h.box) hr hm, hc.trans (Chg.of_grown (S := fun k => k = C) (grown_set W ⟨C, 2, none⟩ va') (fun k _ e => by cases e; rfl)) (fun _ _ s => s) (fun _ _ s => .inl s), hf⟩
theorem mcell_new (w : World) (m : Ml) : ∀ (j : Nat) (u : Value), (mcell m)[j]? = some u → (w.alloc (.cells #[.int .i64 m.f, .int .i64 m.t, m.v] 82)).cell? ((⟨w.heap.size, 0, none⟩ : Addr).add j) = some u := fun j u hu => by
  match j, hu with
  | 0, hu => simp [mcell] at hu; subst hu; simp [go_sem, Addr.add]
  | 1, hu => simp [mcell] at hu; subst hu; simp [go_sem, Addr.add]
  | 2, hu => simp [mcell] at hu; subst hu; simp [go_sem, Addr.add]
  | j + 3, hu => simp [mcell] at hu
theorem mcell_one {m : Ml} (h : m.v.oneCell' = true) : ∀ u ∈ mcell m, u.oneCell' = true := by
  intro u hu
  simp [mcell] at hu
  rcases hu with rfl | rfl | rfl
  · rfl
  · rfl
  · exact h
set_option maxHeartbeats 4000000 in
theorem rSend_ok {N C : Nat} {nodes most : Int} {va : Value} {rs : List Ml} {w : World} (h : RH N C nodes most va rs w) {a b : Int} (ho : OkW nodes a b) (hl : rs.length ≤ 1000) {sv : Value} {L : List Int} (hs : Src w sv (by8 L)) (hL : L.length ≤ 300) (hf : (nw (abs rs) a b : Int) < most) :
    Calls Try.prog 54 #[.pointer (some ⟨C, 0, none⟩), .int .i64 a, .int .i64 b, sv] w (SPost N C nodes most va rs w 0 (abs rs ++ [(a, b, L)])) := by
  have HA := rAsked_any h a b
  rw [cAsk, if_pos ho] at HA
  have HA := Lib.hid HA
  have c1 := h.c1
  obtain ⟨q, hq⟩ : ∃ q, q = nw (abs rs) a b := ⟨_, rfl⟩
  have HB2 : ∀ W, W = w ∨ W = w.drew → Calls Try.prog 40 #[.pointer (some ⟨C, 0, none⟩), .int .i64 a, .int .i64 b] W fun e w' => e = .returned (.int .i64 (q : Int)) ∧ w' = W := fun W hW => by
    rw [hq]
    rcases hW with rfl | rfl
    · exact rWaits_any h a b hl
    · exact rWaits_any (h.below (Below.refl _ _).drew) a b hl
  rw [← hq] at hf
  have HB2 := Lib.hid HB2
  obtain ⟨oad, cap, hsv⟩ := hs.form
  rw [by8_len] at hsv
  have d1 : decide (65548 < (L.length : Int)) = false := decide_eq_false (by omega)
  have d2 : decide (most ≤ (q : Int)) = false := decide_eq_false (by omega)
  obtain ⟨i0, ti, hz0, hz1, hz2⟩ := info_parts info82
  have hNs : N ≤ w.heap.size := Nat.le_trans h.hC (Nat.le_of_lt h.lt)
  have h1 := h.below (Below.refl _ w).drew
  obtain ⟨u, W2, hr1, own1, hg1⟩ := copy_run (hs.below (Below.refl _ w).drew) (by rw [by8_len]; omega) (by8_one L)
  have h2 := h1.below (below_of_grown hg1)
  obtain ⟨W3, hW3⟩ : ∃ W3, W3 = W2.alloc (.cells #[.int .i64 a, .int .i64 b, u] 82) := ⟨_, rfl⟩
  have b3 : Below W2.heap.size W2 W3 := by rw [hW3]; exact (Below.refl _ W2).alloc (Nat.le_refl _) _
  have s3 : W3.heap.size = W2.heap.size + 1 := by rw [hW3]; exact World.size_alloc _ _
  have h3 := h2.below b3
  have s2 : w.heap.size ≤ W2.heap.size := hg1.size
  have own3 := row_below own1 b3
  obtain ⟨v', W4, hr2, own4, hg4, -⟩ := run_append_own W3 N 75 75 82 i0 (.agg #[.int .i64 0, .int .i64 0, .slice none 0 0]) 3 40 rfl ti hz0 hz1 hz2 rfl (by decide) va rs.length (mcells rs) h3.row ⟨W2.heap.size, 0, none⟩ 1 1 (mcell ⟨a, b, L, u⟩) rfl
    (by rw [hW3]; exact mcell_new W2 ⟨a, b, L, u⟩) (mcell_one (own_one own1)) (by simp only [maxLen]; omega) (by omega) (by omega)
  have kept5 : ∀ {x : Value} {xs : List Value} {base k : Nat}, W3.ownsRow base 5 1 x k xs → W4.ownsRow base 5 1 x k xs := fun {x xs base k} hx => hx.kept hg4 (by
    cases e : x.ownBlock with
    | none => exact .inl rfl
    | some j => exact .inr (fun e2 => own_apart (C := 0) (B := 0) h3.row hx (by decide) e2.symm e))
  have hbx : W4.heap[C]? = w.heap[C]? := (hg4.block C h3.lt (fun e => own_not h3.row h3.box (by decide) e.symm)).trans (h3.box.trans h.box.symm)
  have c2 := h2.c2
  have c24 : W4.cell? ⟨C, 2, none⟩ = some va := by simp [World.cell?, hbx, h.box]
  have f24 : W4.frozen? ⟨C, 2, none⟩ = false := by simp [World.frozen?, hbx, h.box]
  have c23 := h3.c2
  rw [hW3] at c23
  have hc4 : Chg (fun k => k = C ∨ some k = va.ownBlock) w W4 := by
    refine Chg.trans (S := fun _ => False) (T := fun k => some k = va.ownBlock) (Chg.of_below ?_) (Chg.of_grown hg4 (fun _ _ e => e)) (fun _ _ s => s.elim) (fun _ _ s => .inr s)
    exact (((Below.refl _ w).drew).trans (below_of_grown hg1)).trans (b3.mono s2)
  have post : SPost N C nodes most va rs w 0 (abs rs ++ [(a, b, L)]) (.returned (.int .i64 0)) (W4.setCell ⟨C, 2, none⟩ v') := by
    refine ⟨rfl, ?_⟩
    have := RPost.mk (va' := v') (rs' := rs ++ [⟨a, b, L, u⟩]) h hc4 hbx (by rw [mcells_append, List.length_append]; simpa [mcells] using own4) (fun m hm => by
      rcases List.mem_append.1 hm with hm | hm
      · exact kept5 (h3.msg m hm)
      · obtain rfl := List.mem_singleton.1 hm
        exact kept5 (row_mono own3 hNs)) (fun r hr => by
      rcases List.mem_append.1 hr with hr | hr
      · exact .inl ⟨r, hr, rfl⟩
      · obtain rfl := List.mem_singleton.1 hr
        exact .inr (fun k e => (own1.lt k e).1))
    rw [abs_append] at this
    exact this
  obtain ⟨ou, cu, hu⟩ : ∃ ou cu, u = .slice ou L.length cu := by
    rw [by8_len] at own1
    rcases ownsRow_forms own1 with ⟨h, h0⟩ | ⟨g, cp, h⟩
    · exact ⟨none, 0, by rw [h, h0]⟩
    · exact ⟨_, cp, h⟩
  obtain ⟨gv, cv, hv⟩ : ∃ g cap, v' = .slice (some ⟨g, 0, none⟩) (rs.length + 1) cap := by
    rcases ownsRow_forms own4 with ⟨_, h⟩ | ⟨g, cap, h⟩
    · omega
    · exact ⟨g, cap, h⟩
  have HP := Lib.hid post; have HW3 := Lib.hid hW3
  subst hsv
  rw [hW3] at hr2
  clear h ho hq h1 h2 h3 b3 s3 s2 own3 own4 own1 hg1 hg4 hbx hc4 post kept5 hs hW3
  subst hu hv
  go_enter Try.func54, Try.ntmps54
  go_wp2_with fail
  refine HA.out.mono ?_
  rintro e w1 ⟨rfl, rfl⟩
  go_wp2_with fail
  go_region_with (go_at_call 40; refine (HB2.out _ (by first | exact .inl rfl | exact .inr rfl)).mono ?_; rintro e w2 ⟨rfl, rfl⟩)
  all_goals
    go_wp2_with (first
      | (at_builtin; refine wpList_append_run rfl rfl (s := .tmp 30) (x := .tmp 31) (t := 34) rfl rfl hr1 ?_)
      | (at_builtin; refine wpList_append_run rfl rfl (s := .tmp 37) (x := .tmp 42) (t := 75) rfl rfl hr2 ?_))
    go_ret
    exact HP.out
theorem rSend_any {N C : Nat} {nodes most : Int} {va : Value} {rs : List Ml} {w : World} (h : RH N C nodes most va rs w) (a b : Int) (hl : rs.length ≤ 1000) {sv : Value} {L : List Int} (hs : Src w sv (by8 L)) (hL : L.length ≤ 300) :
    Calls Try.prog 54 #[.pointer (some ⟨C, 0, none⟩), .int .i64 a, .int .i64 b, sv] w (SPost N C nodes most va rs w (cSend nodes most (abs rs) a b) (aSend nodes most (abs rs) a b L)) := by
  unfold aSend cSend
  by_cases ho : OkW nodes a b
  · rw [if_pos ho]
    by_cases hf : most ≤ (nw (abs rs) a b : Int)
    · rw [if_pos hf, if_neg (by decide)]
      obtain ⟨oad, cap, rfl⟩ := hs.form
      refine (rSend_full h ho hl oad _ cap (by rw [by8_len]; omega) hf).mono ?_
      rintro e w' ⟨rfl, rfl⟩
      exact ⟨rfl, RPost.same h (Below.refl _ _).drew⟩
    · rw [if_neg hf, if_pos rfl]
      exact rSend_ok h ho hl hs hL (by omega)
  · rw [if_neg ho, if_neg (by decide)]
    refine (rSend_bad h ho sv).mono ?_
    rintro e w' ⟨rfl, rfl⟩
    exact ⟨rfl, RPost.same h (Below.refl _ _)⟩
end Go.Proofs.Ytklkhlipecphkaa
