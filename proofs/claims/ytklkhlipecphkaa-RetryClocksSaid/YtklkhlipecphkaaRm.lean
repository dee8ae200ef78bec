/- Retry: the law RetryClocks. -/
import Derived.Test.YtklkhlipecphkaaRl
namespace Go.Proofs.Ytklkhlipecphkaa
open Go.RowKit Go.Joins Go.Maps
set_option maxRecDepth 100000
set_option linter.unusedVariables false

/-- The program's timers are the document's, by members. -/
structure RelM (f : Int → Option (Int × Int)) (L : List Tm) (K : Nat) : Prop where
  mem : ∀ t ∈ L, f t.1 = some t.2
  out : ∀ x, (∀ t ∈ L, t.1 ≠ x) → f x = none
  nd : (L.map (fun t => t.1)).Nodup
  wf : ∀ t ∈ L, (Lit.int .i64 t.1).wf = true
  tr : ∀ t ∈ L, ∃ n : Nat, t.2.2 = (n : Int) ∧ n ≤ K
theorem tm_eq {L : List Tm} {i : Nat} (h : i < L.length) : tm L i = L[i] := by simp [tm, List.getD_eq_getElem?_getD, h]
theorem tm_mem {L : List Tm} {i : Nat} (h : i < L.length) : tm L i ∈ L := by rw [tm_eq h]; exact List.getElem_mem h
theorem mem_tm {L : List Tm} {t : Tm} (h : t ∈ L) : ∃ i, i < L.length ∧ tm L i = t := by
  obtain ⟨i, hi, he⟩ := List.mem_iff_getElem.1 h
  exact ⟨i, hi, by rw [tm_eq hi]; exact he⟩
theorem RelM.inj {f : Int → Option (Int × Int)} {L : List Tm} {K : Nat} (h : RelM f L K) : ∀ i j, i < L.length → j < L.length → (tm L i).1 = (tm L j).1 → i = j := fun i j hi hj e => by
  have hn := h.nd
  rw [tm_eq hi, tm_eq hj] at e
  have hp := List.pairwise_iff_getElem.1 hn
  rcases Nat.lt_trichotomy i j with h' | h' | h'
  · exact absurd (by rw [List.getElem_map, List.getElem_map]; exact e) (hp i j (by simpa using hi) (by simpa using hj) h')
  · exact h'
  · exact absurd (by rw [List.getElem_map, List.getElem_map]; exact e.symm) (hp j i (by simpa using hj) (by simpa using hi) h')
theorem RelM.toRel {f : Int → Option (Int × Int)} {L : List Tm} {K : Nat} (h : RelM f L K) : Rel f L K :=
  ⟨fun i hi => h.mem _ (tm_mem hi), fun x hx => h.out x (fun t ht => by obtain ⟨i, hi, rfl⟩ := mem_tm ht; exact hx i hi), h.inj, fun i hi => h.wf _ (tm_mem hi), fun i hi => h.tr _ (tm_mem hi)⟩
theorem RelM.start0 : RelM (fun _ => none) [] 0 := ⟨by simp, by simp, by simp, by simp, by simp⟩
theorem RelM.mono {f : Int → Option (Int × Int)} {L : List Tm} {K K' : Nat} (h : RelM f L K) (hk : K ≤ K') : RelM f L K' :=
  ⟨h.mem, h.out, h.nd, h.wf, fun t ht => by obtain ⟨n, e, hn⟩ := h.tr t ht; exact ⟨n, e, Nat.le_trans hn hk⟩⟩
theorem RelM.stop {f : Int → Option (Int × Int)} {L : List Tm} {K : Nat} (h : RelM f L K) (x : Int) : RelM (upd f x none) (flt L x L.length) K := by
  rw [flt_all]
  have hmem : ∀ t, t ∈ L.filter (fun t => !(t.1 == x)) ↔ t ∈ L ∧ t.1 ≠ x := fun t => by simp [List.mem_filter]
  refine ⟨fun t ht => ?_, fun y hy => ?_, ?_, fun t ht => h.wf t ((hmem t).1 ht).1, fun t ht => h.tr t ((hmem t).1 ht).1⟩
  · obtain ⟨h1, h2⟩ := (hmem t).1 ht
    rw [upd_other f _ h2]; exact h.mem t h1
  · by_cases e : y = x
    · rw [e, upd_same]
    · rw [upd_other f _ e]
      refine h.out y (fun t ht hty => ?_)
      exact hy t ((hmem t).2 ⟨ht, by rw [hty]; exact e⟩) hty
  · exact List.Nodup.sublist (List.Sublist.map _ List.filter_sublist) h.nd
theorem RelM.start {f : Int → Option (Int × Int)} {L : List Tm} {K : Nat} (h : RelM f L K) {x : Int} (hx : (Lit.int .i64 x).wf = true) (now : Int) : RelM (upd f x (some (now, 0))) (flt L x L.length ++ [(x, now, 0)]) K := by
  have hs := h.stop x
  have hne : ∀ t ∈ flt L x L.length, t.1 ≠ x := fun t ht => by
    rw [flt_all] at ht
    have := (List.mem_filter.1 ht).2
    simpa using this
  refine ⟨fun t ht => ?_, fun y hy => ?_, ?_, fun t ht => ?_, fun t ht => ?_⟩
  · rcases List.mem_append.1 ht with h1 | h1
    · have := hs.mem t h1
      rw [upd_other f _ (hne t h1)] at this ⊢
      exact this
    · obtain rfl := List.mem_singleton.1 h1
      exact upd_same _ _ _
  · have e : y ≠ x := fun e => hy (x, now, 0) (by simp) e.symm
    rw [upd_other f _ e]
    have := hs.out y (fun t ht => hy t (List.mem_append.2 (.inl ht)))
    rwa [upd_other f _ e] at this
  · rw [List.map_append, List.nodup_append]
    refine ⟨hs.nd, by simp, fun a ha b hb => ?_⟩
    obtain ⟨t, ht, rfl⟩ := List.mem_map.1 ha
    simp at hb
    subst hb
    exact hne t ht
  · rcases List.mem_append.1 ht with h1 | h1
    · exact hs.wf t h1
    · obtain rfl := List.mem_singleton.1 h1
      exact hx
  · rcases List.mem_append.1 ht with h1 | h1
    · exact hs.tr t h1
    · obtain rfl := List.mem_singleton.1 h1
      exact ⟨0, rfl, Nat.zero_le _⟩
theorem RelM.tried {f : Int → Option (Int × Int)} {L : List Tm} {K i n : Nat} {x a a' : Int} (h : RelM f L K) (hi : i < L.length) (ht : tm L i = (x, a, (n : Int))) (hn : n ≤ K) : RelM (upd f x (some (a', ((n + 1 : Nat) : Int)))) (L.set i (x, a', ((n + 1 : Nat) : Int))) (K + 1) := by
  have hcase : ∀ t, t ∈ L.set i (x, a', ((n + 1 : Nat) : Int)) → t = (x, a', ((n + 1 : Nat) : Int)) ∨ (t ∈ L ∧ t.1 ≠ x) := fun t hts => by
    obtain ⟨j, hj, he⟩ := List.mem_iff_getElem.1 hts
    have hj' : j < L.length := by simpa using hj
    rw [List.getElem_set] at he
    by_cases e : i = j
    · rw [if_pos e] at he; exact .inl he.symm
    · rw [if_neg e] at he
      refine .inr ⟨by rw [← he]; exact List.getElem_mem hj', fun hx => e ?_⟩
      refine h.inj i j hi hj' ?_
      rw [ht, tm_eq hj', he, hx]
  have hin : ∀ t, t ∈ L → t.1 ≠ x → t ∈ L.set i (x, a', ((n + 1 : Nat) : Int)) := fun t htl hx => by
    obtain ⟨j, hj, he⟩ := mem_tm htl
    have e : i ≠ j := fun e => hx (by rw [← he, ← e, ht])
    refine List.mem_iff_getElem.2 ⟨j, by simpa using hj, ?_⟩
    rw [List.getElem_set, if_neg e, ← tm_eq hj]
    exact he
  have hself : (x, a', ((n + 1 : Nat) : Int)) ∈ L.set i (x, a', ((n + 1 : Nat) : Int)) := List.mem_set hi _
  refine ⟨fun t hts => ?_, fun y hy => ?_, ?_, fun t hts => ?_, fun t hts => ?_⟩
  · rcases hcase t hts with rfl | ⟨h1, h2⟩
    · exact upd_same _ _ _
    · rw [upd_other f _ h2]; exact h.mem t h1
  · have e : y ≠ x := fun e => hy _ hself e.symm
    rw [upd_other f _ e]
    refine h.out y (fun t htl hty => ?_)
    exact hy t (hin t htl (by rw [hty]; exact e)) hty
  · have : (L.set i (x, a', ((n + 1 : Nat) : Int))).map (fun t => t.1) = L.map (fun t => t.1) := by
      rw [List.map_set]
      apply List.ext_getElem (by simp)
      intro j hj hj2
      rw [List.getElem_set]
      by_cases e : i = j
      · subst e
        rw [if_pos rfl, List.getElem_map, ← tm_eq hi, ht]
      · rw [if_neg e]
    rw [this]; exact h.nd
  · rcases hcase t hts with rfl | ⟨h1, _⟩
    · have := h.wf _ (tm_mem hi); rw [ht] at this; exact this
    · exact h.wf t h1
  · rcases hcase t hts with rfl | ⟨h1, _⟩
    · exact ⟨n + 1, rfl, by omega⟩
    · obtain ⟨m, e, hm⟩ := h.tr t h1; exact ⟨m, e, by omega⟩
end Go.Proofs.Ytklkhlipecphkaa
