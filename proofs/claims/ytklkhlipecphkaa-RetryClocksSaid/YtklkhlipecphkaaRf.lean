/- Retry: Next, the least time of all timers. -/
import Derived.Test.YtklkhlipecphkaaRe
import Derived.Maps.RangeWalk
namespace Go.Proofs.Ytklkhlipecphkaa
open Go.RowKit Go.Joins Go.Maps
set_option maxRecDepth 100000
set_option linter.unusedVariables false

/-- What is known of the least time while some entries are still to come. -/
def NInv (f : Int → Option (Int × Int)) (left : Lit → Bool) (at_ : Int) (ok : Bool) : Prop :=
  (ok = false ∧ at_ = 0 ∧ ∀ z p, (Lit.int .i64 z).wf = true → f z = some p → left (.int .i64 z) = true) ∨
  (ok = true ∧ (∃ z t, (Lit.int .i64 z).wf = true ∧ f z = some (at_, t)) ∧ ∀ z p, (Lit.int .i64 z).wf = true → f z = some p → left (.int .i64 z) = true ∨ at_ ≤ p.1)
theorem NInv.start {D : DataW Unit} {f : Int → Option (Int × Int)} (h : View D f) : NInv f (Maps.has D) 0 false :=
  .inl ⟨rfl, rfl, fun z p hz hf => by rw [(h z hz).2, hf]; rfl⟩
theorem NInv.step {f : Int → Option (Int × Int)} {left : Lit → Bool} {at_ : Int} {ok : Bool} (h : NInv f left at_ ok) {x : Int} {p : Int × Int} (hx : (Lit.int .i64 x).wf = true) (hf : f x = some p) :
    NInv f (fun z => left z && !z.sameKey (.int .i64 x)) (if (!ok || decide (p.1 < at_)) = true then p.1 else at_) true := by
  have hs : ∀ z, z ≠ x → (Lit.int .i64 z).sameKey (.int .i64 x) = false := fun z hz => Maps.sameKey_ne (fun e => hz (by cases e; rfl))
  rcases h with ⟨rfl, rfl, hl⟩ | ⟨rfl, ⟨z0, t0, hz0, hf0⟩, hl⟩
  · refine .inr ⟨rfl, ⟨x, p.2, hx, by simpa using hf⟩, fun z q hz hq => ?_⟩
    by_cases e : z = x
    · subst e
      rw [hf] at hq
      cases hq
      right
      simp
    · left
      simp [hl z q hz hq, hs z e]
  · by_cases hlt : p.1 < at_
    · refine .inr ⟨rfl, ⟨x, p.2, hx, by simpa [hlt] using hf⟩, fun z q hz hq => ?_⟩
      by_cases e : z = x
      · subst e
        rw [hf] at hq
        cases hq
        right
        simp [hlt]
      · rcases hl z q hz hq with h | h
        · left; simp [h, hs z e]
        · right; simp [hlt]; omega
    · refine .inr ⟨rfl, ⟨z0, t0, hz0, by simpa [hlt] using hf0⟩, fun z q hz hq => ?_⟩
      by_cases e : z = x
      · subst e
        rw [hf] at hq
        cases hq
        right
        simp [hlt]; omega
      · rcases hl z q hz hq with h | h
        · left; simp [h, hs z e]
        · right; simpa [hlt] using h
/-- What Next says. -/
def IsNext (f : Int → Option (Int × Int)) (at_ : Int) (ok : Bool) : Prop :=
  (ok = false ∧ at_ = 0 ∧ ∀ z, (Lit.int .i64 z).wf = true → f z = none) ∨
  (ok = true ∧ (∃ z t, (Lit.int .i64 z).wf = true ∧ f z = some (at_, t)) ∧ ∀ z p, (Lit.int .i64 z).wf = true → f z = some p → at_ ≤ p.1)
theorem NInv.done {f : Int → Option (Int × Int)} {left : Lit → Bool} {at_ : Int} {ok : Bool} (h : NInv f left at_ ok) (hl : ∀ kl, left kl = false) : IsNext f at_ ok := by
  rcases h with ⟨rfl, rfl, h⟩ | ⟨rfl, h1, h2⟩
  · refine .inl ⟨rfl, rfl, fun z hz => ?_⟩
    cases hf : f z with
    | none => rfl
    | some p => have := h z p hz hf; rw [hl] at this; cases this
  · exact .inr ⟨rfl, h1, fun z p hz hf => (h2 z p hz hf).resolve_left (by rw [hl]; simp)⟩

theorem view_entry {D : DataW Unit} {f : Int → Option (Int × Int)} (h : View D f) {x : Int} (hx : (Lit.int .i64 x).wf = true) {p : Int × Int} {y : DataW Unit × List MemPlace} (hy : tElem (tVal p) = some y) (hat : ∀ zd, D.atKey (.int .i64 x) zd = y.1) : f x = some p := by
  rw [tElem_mk] at hy
  cases hy
  obtain ⟨h1, h2⟩ := h x hx
  rw [Maps.has_true_of_atKey hat] at h2
  rw [hat] at h1
  cases hf : f x with
  | none => rw [hf] at h2; cases h2
  | some q =>
    rw [hf] at h1
    have := tDat_inj h1
    simp at this
    rw [this]

set_option maxHeartbeats 4000000 in
theorem Next_yes {N B Mb : Nat} {base most now : Int} {f : Int → Option (Int × Int)} {n : Nat} {w : World} (h : Clk N B Mb base most now f n w) (hb : 0 < base) :
    Calls Try.prog 31 #[.pointer (some ⟨B, 0, none⟩)] w fun e w' => ∃ at_ ok, e = .returned (.tuple #[.int .i64 at_, .bool ok]) ∧ IsNext f at_ ok ∧ Below w.heap.size w w' := by
  have HIS := Lib.hid (is_yes h hb)
  have c3 := h.c3
  obtain ⟨D, hown, hv⟩ := h.map
  have HV := Lib.hid hv
  have HML := Lib.hid hown.lt
  clear hv h
  go_enter Try.func31, Try.ntmps31
  go_wp2_with fail
  refine HIS.out.mono ?_
  rintro e w1 ⟨rfl, rfl⟩
  go_wp2_with (at_range; refine wpList_range_own _ rfl _ 68 rfl 3 97 law Try.underlying68 tElem Mb n D rfl hown ?_; intro w0 hrg0 hg0 hs0)
  go_frame
  go_loopw [2, 3, 5] (fun x y _ wr => ∃ (left : Lit → Bool) (cnt : Nat) (at_ : Int) (ok : Bool), wr.ranges Try.prog 3 tElem Mb w1.heap.size n D left cnt ∧ x = .int .i64 at_ ∧ y = .bool ok ∧ NInv f left at_ ok ∧ Below w1.heap.size w1 wr)
    (fun _ _ _ wr => wr.rangeLeft Mb w1.heap.size)
  case atStart => exact ⟨_, _, 0, false, hrg0, rfl, rfl, NInv.start HV.out, ⟨hg0.os, hg0.tape, hg0.output, hg0.size, fun i hi => hg0.block i hi (by simp)⟩⟩
  case round =>
    obtain ⟨left, cnt, at_, ok, hrg, rfl, rfl, hni, hbl⟩ := hrel
    have HNI := Lib.hid hni
    have HBL := Lib.hid hbl
    clear hni hbl hrg0 hg0 hs0
    go_wp2_with (at_next; refine wpList_next_ranges (α := Int) (β := Int × Int) _ rfl _ rfl 3 law tElem (Value.int .i64) tVal (fun key kl hkey => by obtain ⟨x, rfl, _⟩ := Maps.keyOf_int_inv Try.underlying3 hkey; exact ⟨x, rfl⟩) (fun v y hv => by obtain ⟨p, rfl, _⟩ := tElem_inv hv; exact ⟨p, rfl⟩) Mb w1.heap.size n _ _ _ rfl hrg ?_ ?_)
    · intro _ hl0
      have hdone := HNI.out.done hl0
      go_wp2_with fail
      go_ret2
      exact ⟨_, _, rfl, hdone, HBL.out⟩
    · intro x pa pt kl y1 y2 w2 cnt2 hkey hlx hy hat hrg2 hlt hg2 hs2 hen
      obtain ⟨x', ex, rfl, hwx⟩ := Maps.keyOf_int_inv Try.underlying3 hkey
      cases ex
      have hf := view_entry (p := (pa, pt)) (y := (y1, y2)) HV.out hwx hy hat
      simp only [tVal] at hen ⊢
      have hni2 := HNI.out.step hwx hf
      have hrg3 := hrg2.alloc (Obj.cells #[.int .i64 pa, .int .i64 pt] 97)
      have hbl2 : Below w1.heap.size w1 w2 := HBL.out.grown hg2 HBL.out.size (fun q hq => by cases hq; exact Nat.le_refl _)
      have hbl3 := hbl2.alloc hbl2.size (Obj.cells #[.int .i64 pa, .int .i64 pt] 97)
      have H1 := Lib.hid hni2
      have H2 := Lib.hid hrg3
      have H3 := Lib.hid hbl3
      have HRG := Lib.hid hrg
      have HLT := Lib.hid hlt
      clear hni2 hrg3 hbl2 hbl3 hrg hlt hkey hlx hy hat hrg2 hg2 hs2 hf
      cases ok with
      | false =>
        go_wp2_with fail
        go_roundw
        case rel => exact ⟨_, cnt2, pa, true, H2.out, rfl, rfl, H1.out, H3.out⟩
        case measure => rw [H2.out.left_eq, HRG.out.left_eq]; exact HLT.out
      | true =>
        by_cases hc : pa < at_
        · have e1 : decide (pa < at_) = true := decide_eq_true hc
          have h4 := H1.out
          rw [e1] at h4
          go_wp2_with fail
          go_roundw
          case rel => exact ⟨_, cnt2, pa, true, H2.out, rfl, rfl, h4, H3.out⟩
          case measure => rw [H2.out.left_eq, HRG.out.left_eq]; exact HLT.out
        · have e1 : decide (pa < at_) = false := decide_eq_false hc
          have h4 := H1.out
          rw [e1] at h4
          go_wp2_with fail
          go_roundw
          case rel => exact ⟨_, cnt2, at_, true, H2.out, rfl, rfl, h4, H3.out⟩
          case measure => rw [H2.out.left_eq, HRG.out.left_eq]; exact HLT.out
end Go.Proofs.Ytklkhlipecphkaa
