/- A region that draws its order inside a fence: the first p operations walked once, in the text's order, at one world; each operation from p on waits, through others, for every one of them. -/
import Derived.Sort.QuietThIn
import Derived.Sort.QuietIn
namespace Go

section
variable {F : Fence} {n : Nat} {P : Program} {ops : Array Oper} {md : Region.Mode} {C : World → Prop} {Q : Exit → Act → World → Prop} {p : Nat}

/-- Whatever order is picked: the operations below p are quiet; from p on the plain walk. -/
def wpAnyHIn (F : Fence) (n : Nat) (P : Program) (md : Region.Mode) (ops : Array Oper) (C : World → Prop) (Q : Exit → Act → World → Prop) (p : Nat) : Nat → Array Bool → Act → Prop
  | 0, listed, a => ∀ w, C w → wpAnyIn F n P md ops Q 0 listed a w
  | fuel + 1, listed, a =>
    (Region.ready md ops listed = [] → ∀ w, C w → Q .normal a w) ∧
    ∀ i ∈ Region.ready md ops listed, (i < p → qOpIn F n P ops C i (wpAnyHIn F n P md ops C Q p fuel (listed.setIfInBounds i true)) a) ∧
      (p ≤ i → ∀ w, C w → wpOpIn F n P ops Q i (wpAnyIn F n P md ops Q fuel (listed.setIfInBounds i true)) a w)

theorem wpAnyIn_of_held (hro : F.round = none) : ∀ (fuel : Nat) (listed : Array Bool) (a : Act) (w : World), C w → wpAnyHIn F n P md ops C Q p fuel listed a → wpAnyIn F n P md ops Q fuel listed a w
  | 0, _, _, w, hw, h => h w hw
  | fuel + 1, _, _, w, hw, h => ⟨fun h0 => h.1 h0 w hw, fun i hi => by
      by_cases hp : i < p
      · exact wpOpIn_of_qOpIn hro hw (fun a' w' hw' => wpAnyIn_of_held hro fuel _ a' w' hw') ((h.2 i hi).1 hp)
      · exact (h.2 i hi).2 (by omega) w hw⟩

theorem getD_true_false {listed : Array Bool} {i : Nat} (h : listed.getD i true = false) : listed.getD i false = false := by
  rcases Nat.lt_or_ge i listed.size with h' | h'
  · simp [h'] at h ⊢; exact h
  · simp [Array.getElem?_eq_none h']

theorem wpAnyHIn_first (hne : ∃ w, C w) {i : Nat} {oi : Oper} {v : Value} (hi : ops[i]? = some oi) (hip : i < p) (hsel : ∀ (j : Nat) (o : Oper) cs b, ops[j]? = some o → o.op ≠ .select cs b)
    (H : Nat → Prop) (hH : ∀ h, H h → ∃ oh, ops[h]? = some oh ∧ ∃ e ∈ oh.after, Region.binds md e = true ∧ (e.on = i ∨ H e.on)) (hpH : ∀ j, p ≤ j → j < ops.size → H j) :
    ∀ (fuel : Nat) (listed : Array Bool) (a : Act),
      (∀ j oj, ops[j]? = some oj → j ≠ i → listed.getD j true = false → (∀ e ∈ oj.after, Region.binds md e = true → e.on ≠ i) → oi.apart ops oj = true) →
      (∀ h, H h → listed.getD h true = false) →
      i ∈ Region.ready md ops listed → YieldsQuiet F n P ops C oi v a →
      wpAnyHIn F n P md ops C Q p fuel (listed.setIfInBounds i true) (a.put oi.dst v) → wpAnyHIn F n P md ops C Q p (fuel + 1) listed a := by
  intro fuel
  induction fuel with
  | zero =>
    intro listed a _ _ hr hy H0
    refine ⟨fun h => (by rw [h] at hr; cases hr), fun j hj => ?_⟩
    by_cases hji : j = i
    · subst hji; exact ⟨fun _ => hy.qOpIn hi H0, fun h => absurd h (by omega)⟩
    · have := ready_mono hj hji
      obtain ⟨w, hw⟩ := hne
      rw [(H0 w hw).1] at this
      cases this
  | succ fuel ih =>
    intro listed a hfree hun hr hy H0
    refine ⟨fun h => (by rw [h] at hr; cases hr), fun j hj => ?_⟩
    by_cases hji : j = i
    · subst hji; exact ⟨fun _ => hy.qOpIn hi H0, fun h => absurd h (by omega)⟩
    · obtain ⟨hjun, oj, hoj, hall⟩ := mem_ready.1 hj
      have hi0 : listed.getD i false = false := getD_true_false (mem_ready.1 hr).1
      have hnH : ¬ H j := fun hHj => by
        obtain ⟨oh, hoh, e, he, hb, hon⟩ := hH j hHj
        rw [hoj] at hoh
        cases hoh
        have h1 := hall e he hb
        rcases hon with hon | hon
        · rw [hon, hi0] at h1; cases h1
        · rw [getD_true_false (hun _ hon)] at h1; cases h1
      have hjp : j < p := by
        rcases Nat.lt_or_ge j p with h | h
        · exact h
        · exact absurd (hpH j h (Array.getElem?_eq_some_iff.1 hoj).1) hnH
      refine ⟨fun _ => ?_, fun h => absurd h (by omega)⟩
      have h1 := (H0.2 j (ready_mono hj hji)).1 hjp
      have hnot : ∀ e ∈ oj.after, Region.binds md e = true → e.on ≠ i := fun e he hb heq => by
        have h1 := hall e he hb
        rw [heq, hi0] at h1; cases h1
      have h2 := qOpIn_put hoj (hfree j oj hoj hji hjun hnot) (fun cs b => hsel i oi cs b hi) (fun cs b => hsel j oj cs b hoj) hy h1
      have hfree' : ∀ k ok, ops[k]? = some ok → k ≠ i → (listed.setIfInBounds j true).getD k true = false →
          (∀ e ∈ ok.after, Region.binds md e = true → e.on ≠ i) → oi.apart ops ok = true := fun k ok hk hki hun hno => by
        refine hfree k ok hk hki ?_ hno
        by_cases hjk : j = k
        · subst hjk; exact hjun
        · rw [getD_set_ne true hjk] at hun; exact hun
      have hun' : ∀ h, H h → (listed.setIfInBounds j true).getD h true = false := fun h hh => by
        have hjh : j ≠ h := fun e => hnH (e ▸ hh)
        rw [getD_set_ne true hjh]; exact hun h hh
      refine qOpIn_mono (fun a' h3 => ih (listed.setIfInBounds j true) a' hfree' hun' (ready_mono hr (Ne.symm hji)) h3.1 ?_) h2
      rw [Array.setIfInBounds_comm _ _ hji]
      exact h3.2

def Region.heldB (md : Region.Mode) (ops : Array Oper) (p : Nat) (H : List Nat) (listed : Array Bool) (k : Nat) : Bool :=
  H.all (fun h => !listed.getD h true && (match ops[h]? with | some o => o.after.any (fun e => Region.binds md e && (e.on == k || H.contains e.on)) | none => false)) && (List.range ops.size).all (fun j => decide (j < p) || H.contains j)
def Region.preFrom (md : Region.Mode) (ops : Array Oper) (p : Nat) (hs : List (List Nat)) : Nat → Nat → Array Bool → Bool
  | 0, _, listed => (Region.ready md ops listed).all (fun i => decide (p ≤ i))
  | m + 1, k, listed => decide (k < p) && (Region.ready md ops listed).contains k && Region.free md ops listed k && Region.heldB md ops p (hs.getD k []) listed k && Region.preFrom md ops p hs m (k + 1) (listed.setIfInBounds k true)
def Region.after : Nat → Nat → Array Bool → Array Bool
  | 0, _, listed => listed
  | m + 1, k, listed => Region.after m (k + 1) (listed.setIfInBounds k true)

theorem wpAnyHIn_pre (hne : ∃ w, C w) (hs : Region.noSelect ops = true) (hl : List (List Nat)) (fuel : Nat) : ∀ (l : List Oper) (k : Nat) (listed : Array Bool) (a : Act), (∀ j, j < l.length → l[j]? = ops[k + j]?) →
    Region.preFrom md ops p hl l.length k listed = true → wpQuietIn F n P ops C (fun a' => ∀ w, C w → wpAnyIn F n P md ops Q fuel (Region.after l.length k listed) a' w) l a → wpAnyHIn F n P md ops C Q p (l.length + fuel) listed a
  | [], k, listed, a, _, hB, h => by
    have hB' : ∀ i ∈ Region.ready md ops listed, p ≤ i := fun i hi => by
      have := List.all_eq_true.1 hB i hi
      simpa using this
    have h' : ∀ w, C w → wpAnyIn F n P md ops Q fuel listed a w := h
    rw [List.length_nil, Nat.zero_add]
    cases fuel with
    | zero => exact h'
    | succ fuel => exact ⟨fun h0 w hw => (h' w hw).1 h0, fun i hi => ⟨fun hlt => absurd (hB' i hi) (by omega), fun _ w hw => (h' w hw).2 i hi⟩⟩
  | o :: l, k, listed, a, hlk, hB, h => by
    have h0 : ops[k]? = some o := by simpa using (hlk 0 (by simp)).symm
    simp only [List.length_cons, Region.preFrom, Bool.and_eq_true] at hB
    obtain ⟨⟨⟨⟨hkp, hr⟩, hf⟩, hh⟩, hB'⟩ := hB
    have hst : qOpIn F n P ops C k (wpQuietIn F n P ops C (fun a' => ∀ w, C w → wpAnyIn F n P md ops Q fuel (Region.after l.length (k + 1) (listed.setIfInBounds k true)) a' w) l) a := by unfold qOpIn; simp only [h0]; exact h
    obtain ⟨v, hy, hK⟩ := yieldsQuiet_of_qOpIn h0 hst
    simp only [Region.heldB, Bool.and_eq_true, List.all_eq_true] at hh
    have hgo := wpAnyHIn_first (Q := Q) (n := n) hne h0 (by simpa using hkp) (Region.noSelect_spec hs) (fun j => j ∈ hl.getD k [])
      (fun j hj => by
        have h1 := (hh.1 j hj).2
        cases hoj : ops[j]? with
        | none => simp [hoj] at h1
        | some oj =>
          simp only [hoj] at h1
          obtain ⟨e, he, hb⟩ := Array.any_eq_true'.1 h1
          simp only [Bool.and_eq_true, Bool.or_eq_true, beq_iff_eq, List.contains_iff_mem] at hb
          exact ⟨oj, rfl, e, he, hb.1, hb.2⟩)
      (fun j hj hjs => by
        have := hh.2 j (List.mem_range.2 hjs)
        simp only [Bool.or_eq_true, decide_eq_true_eq, List.contains_iff_mem] at this
        rcases this with h | h
        · omega
        · exact h)
      (l.length + fuel) listed a (Region.free_spec h0 hf)
      (fun j hj => by have := (hh.1 j hj).1; simpa using this) (by simpa using hr) hy
      (wpAnyHIn_pre hne hs hl fuel l (k + 1) _ _ (fun j hj => by have := hlk (j + 1) (by simp; omega); simpa [Nat.add_assoc, Nat.add_comm 1 j] using this) hB' hK)
    rw [List.length_cons, show l.length + 1 + fuel = l.length + fuel + 1 by omega]
    exact hgo

theorem wpIn_region_pre {id : Nat} {a : Act} {w : World} {l l1 : List Oper} (fuel : Nat) (hl : List (List Nat)) (hro : F.round = none) (hm : P.follows .mixedOrders = true) (hs : Region.noSelect l.toArray = true)
    (h1 : ∀ j, j < l1.length → l1[j]? = l.toArray[j]?) (hsz : l.toArray.size = l1.length + fuel)
    (hB : Region.preFrom .any l.toArray l1.length hl l1.length 0 (Array.replicate l.toArray.size false) = true)
    (h : wpQuietIn F n P l.toArray (fun w' => ∃ _k : Nat, w' = w.drew) (fun a' => wpAnyIn F n P .any l.toArray Q fuel (Region.after l1.length 0 (Array.replicate l.toArray.size false)) a' w.drew) l1 a) : (Code.region id l.toArray true).wpIn F n P Q a w := by
  refine wpIn_region_any hm ?_
  rw [hsz]
  refine wpAnyIn_of_held (C := fun w' => ∃ _k : Nat, w' = w.drew) (p := l1.length) hro _ _ _ _ ⟨0, rfl⟩ ?_
  rw [← hsz]
  rw [show wpAnyHIn F n P .any l.toArray (fun w' => ∃ _k : Nat, w' = w.drew) Q l1.length l.toArray.size = wpAnyHIn F n P .any l.toArray (fun w' => ∃ _k : Nat, w' = w.drew) Q l1.length (l1.length + fuel) by rw [hsz]]
  refine wpAnyHIn_pre (C := fun w' => ∃ _k : Nat, w' = w.drew) ⟨w.drew, 0, rfl⟩ hs hl fuel l1 0 _ a (fun j hj => by rw [Nat.zero_add]; exact h1 j hj) hB ?_
  have e : (fun a' => ∀ w1, (∃ _k : Nat, w1 = w.drew) → wpAnyIn F n P .any l.toArray Q fuel (Region.after l1.length 0 (Array.replicate l.toArray.size false)) a' w1) = (fun a' => wpAnyIn F n P .any l.toArray Q fuel (Region.after l1.length 0 (Array.replicate l.toArray.size false)) a' w.drew) := by
    funext a'
    exact propext ⟨fun h => h _ ⟨0, rfl⟩, fun h w1 ⟨_, e⟩ => by rw [e]; exact h⟩
  rw [e]
  exact h
end
end Go
