/- Link: one step of a play, of the program and of the document. -/
import Derived.Test.YtklkhlipecphkaaLx
namespace Go.Proofs.Ytklkhlipecphkaa
open Go.RowKit Go.Joins Go.Maps
set_option maxRecDepth 100000
set_option linter.unusedVariables false

theorem blk_type {N B M : Nat} {nodes most : Int} {f : Lit → Option Value} {n : Nat} {ps : List Ml} {w : World} (h : PH N B M nodes most f n ps w) {kl : Lit} {k : Nat} (e : some k = blk f kl) : N ≤ k ∧ ∃ c, w.heap[k]? = some (.cells c 34 (0, 0)) := by
  cases hf : f kl with
  | none => unfold blk at e; rw [hf] at e; simp [Value.ownBlock] at e
  | some v =>
    obtain ⟨a, b, ho, hk⟩ := h.dom kl v hf
    have hrow := h.row a b kl ho hk
    exact ⟨(hrow.lt k e.symm).1, row_type hrow e.symm⟩
/-- What a step of the program does to both. -/
theorem LS.pstep {w0 : World} {N B M C : Nat} {nodes most : Int} {K : Nat} {f : Lit → Option Value} {n : Nat} {va : Value} {ps rs : List Ml} {w w' : World} {A : List Ab} (h : LS w0 N B M C nodes most K f n va ps rs w) (hp : PPost N B M nodes most f n ps w A w') :
    ∃ f' n' ps', abs ps' = A ∧ LS w0 N B M C nodes most (K + 1) f' n' va ps' rs w' ∧ Keeps (notT [34, 5]) w w' ∧ Chg (PS M f ps) w w' ∧ ∀ m ∈ ps', (∃ m0 ∈ ps, m0.v = m.v) ∨ ∀ k, m.v.ownBlock = some k → w.heap.size ≤ k := by
  obtain ⟨f', n', ps', hA, hn, hph, hc, hfr⟩ := hp
  obtain ⟨es, cl, hM⟩ := rows_isMap h.p.net.map
  have obj : ∀ k o, PS M f ps k → w.heap[k]? = some o → (∃ es cl, o = .map es cl) ∨ (∃ c, o = .cells c 34 (0, 0)) ∨ (∃ c, o = .cells c 5 (0, 0)) := fun k o s ho => by
    rcases s with rfl | ⟨kl, e⟩ | ⟨m, hm, e⟩
    · rw [hM] at ho; cases ho; exact .inl ⟨_, _, rfl⟩
    · obtain ⟨c, hc⟩ := (blk_type h.p e).2
      rw [hc] at ho; cases ho; exact .inr (.inl ⟨_, rfl⟩)
    · obtain ⟨c, hc⟩ := row_type (h.p.msg m hm) e
      rw [hc] at ho; cases ho; exact .inr (.inr ⟨_, rfl⟩)
  have hNk : ∀ k, PS M f ps k → N ≤ k := fun k s => by
    rcases s with rfl | ⟨kl, e⟩ | ⟨m, hm, e⟩
    · exact h.p.net.hM
    · exact (blk_type h.p e).1
    · exact ((h.p.msg m hm).lt k e).1
  refine ⟨f', n', ps', hA, ⟨by have := h.hn; omega, hph, h.r.chg hc (fun k o s ho => ⟨fun c t fz e => ?_, fun m hm e => ?_⟩), fun m hm r hr k e1 e2 => ?_, h.bel.trans (hc.below h.bel.size (fun k s => Nat.le_trans h.hN (hNk k s))), h.hN⟩, hc.keeps (fun k o s ho hT => ?_), hc, hfr⟩
  · rcases obj k o s ho with ⟨es, cl, e2⟩ | ⟨c2, e2⟩ | ⟨c2, e2⟩
    · rw [e2] at e; cases e
    · rw [e2] at e; cases e; exact ⟨by decide, by decide⟩
    · rw [e2] at e; cases e; exact ⟨by decide, by decide⟩
  · obtain ⟨c, hc2⟩ := row_type (h.r.msg m hm) e
    rcases s with rfl | ⟨kl, e3⟩ | ⟨m2, hm2, e3⟩
    · rw [hM] at hc2; cases hc2
    · obtain ⟨c3, hc3⟩ := (blk_type h.p e3).2
      rw [hc3] at hc2; simp at hc2
    · exact h.ap m2 hm2 m hm k e3 e
  · rcases hfr m hm with ⟨m0, hm0, e⟩ | hf
    · exact h.ap m0 hm0 r hr k (by rw [e]; exact e1) e2
    · have := hf k e1
      have := ((h.r.msg r hr).lt k e2).2
      omega
  · obtain ⟨c, t, fz, e, hn⟩ := hT
    rcases obj k o s ho with ⟨es, cl, e2⟩ | ⟨c2, e2⟩ | ⟨c2, e2⟩
    · rw [e2] at e; cases e
    · rw [e2] at e; cases e; exact hn (by decide)
    · rw [e2] at e; cases e; exact hn (by decide)
/-- What a step of the document's does to both. -/
theorem LS.rstep {w0 : World} {N B M C : Nat} {nodes most : Int} {K : Nat} {f : Lit → Option Value} {n : Nat} {va : Value} {ps rs : List Ml} {w w' : World} {A : List Ab} (h : LS w0 N B M C nodes most K f n va ps rs w) (hp : RPost N C nodes most va rs w A w') :
    ∃ va' rs', abs rs' = A ∧ LS w0 N B M C nodes most K f n va' ps rs' w' ∧ Keeps (notT [77, 82]) w w' := by
  obtain ⟨va', rs', hA, hrh, hc, hfr⟩ := hp
  have obj : ∀ k o, (k = C ∨ some k = va.ownBlock) → w.heap[k]? = some o → (∃ c, o = .cells c 77 (0, 0)) ∨ (∃ c, o = .cells c 82 (0, 0)) := fun k o s ho => by
    rcases s with rfl | e
    · rw [h.r.box] at ho; cases ho; exact .inl ⟨_, rfl⟩
    · obtain ⟨c, hc⟩ := row_type h.r.row e.symm
      rw [hc] at ho; cases ho; exact .inr ⟨_, rfl⟩
  refine ⟨va', rs', hA, ⟨h.hn, h.p.chg hc (fun k o s ho => ⟨?_, fun m hm e => ?_⟩), hrh, fun m hm r hr k e1 e2 => ?_, h.bel.trans (hc.below h.bel.size (fun k s => ?_)), h.hN⟩, hc.keeps (fun k o s ho hT => ?_)⟩
  · rcases obj k o s ho with ⟨c2, e2⟩ | ⟨c2, e2⟩
    · exact ⟨c2, _, _, e2, by decide, by decide⟩
    · exact ⟨c2, _, _, e2, by decide, by decide⟩
  · obtain ⟨c, hc2⟩ := row_type (h.p.msg m hm) e
    rcases obj k _ s hc2 with ⟨c2, e2⟩ | ⟨c2, e2⟩
    · simp at e2
    · simp at e2
  · rcases hfr r hr with ⟨r0, hr0, e⟩ | hf
    · exact h.ap m hm r0 hr0 k e1 (by rw [e]; exact e2)
    · have := hf k e2
      have := ((h.p.msg m hm).lt k e1).2
      omega
  · rcases s with rfl | e
    · exact Nat.le_trans h.hN h.r.hC
    · exact Nat.le_trans h.hN (h.r.row.lt k e.symm).1
  · obtain ⟨c, t, fz, e, hn⟩ := hT
    rcases obj k o s ho with ⟨c2, e2⟩ | ⟨c2, e2⟩
    · rw [e2] at e; cases e; exact hn (by decide)
    · rw [e2] at e; cases e; exact hn (by decide)

/-- Both lines hold the same. -/
structure LX (w0 : World) (N B M C : Nat) (nodes most : Int) (K : Nat) (A : List Ab) (w : World) : Prop where
  ex : ∃ f n va ps rs, LS w0 N B M C nodes most K f n va ps rs w ∧ abs ps = A ∧ abs rs = A
  len : A.length ≤ K
theorem LX.below {w0 : World} {N B M C : Nat} {nodes most : Int} {K : Nat} {A : List Ab} {w w' : World} (h : LX w0 N B M C nodes most K A w) (hb : Below w.heap.size w w') : LX w0 N B M C nodes most K A w' := by
  obtain ⟨⟨f, n, va, ps, rs, hls, h1, h2⟩, h3⟩ := h
  exact ⟨⟨f, n, va, ps, rs, hls.below hb, h1, h2⟩, h3⟩
theorem LX.bel {w0 : World} {N B M C : Nat} {nodes most : Int} {K : Nat} {A : List Ab} {w : World} (h : LX w0 N B M C nodes most K A w) : Below w0.heap.size w0 w := by
  obtain ⟨⟨f, n, va, ps, rs, hls, h1, h2⟩, h3⟩ := h
  exact hls.bel
theorem aSend_len (nodes most : Int) (A : List Ab) (a b : Int) (L : List Int) : (aSend nodes most A a b L).length ≤ A.length + 1 := by
  unfold aSend
  split <;> simp
theorem aTake_len (nodes : Int) (A : List Ab) (a b i : Int) : (aTake nodes A a b i).length ≤ A.length + 1 := by
  unfold aTake
  split
  · split
    · have := List.length_eraseIdx_le A ‹_›
      omega
    · omega
  · omega
theorem aDbl_len (nodes most : Int) (A : List Ab) (a b i : Int) : (aDbl nodes most A a b i).length ≤ A.length + 1 := by
  unfold aDbl
  split
  · exact aSend_len ..
  · omega
theorem aFlip_len (nodes : Int) (A : List Ab) (a b i bit : Int) : (aFlip nodes A a b i bit).length ≤ A.length + 1 := by
  unfold aFlip
  split
  · split <;> simp
  · omega
/-- The document's messages are as good as the program's. -/
theorem rs_facts {N B M : Nat} {nodes most : Int} {f : Lit → Option Value} {n : Nat} {ps rs : List Ml} {w : World} (h : PH N B M nodes most f n ps w) (e : abs rs = abs ps) : (∀ m ∈ rs, m.L.length ≤ 300) ∧ ∀ m ∈ rs, 0 ≤ m.f := by
  have key : ∀ m ∈ rs, ∃ p ∈ ps, p.ab = m.ab := fun m hm => by
    have : m.ab ∈ abs rs := List.mem_map.2 ⟨m, hm, rfl⟩
    rw [e] at this
    obtain ⟨p, hp, e2⟩ := List.mem_map.1 this
    exact ⟨p, hp, e2⟩
  refine ⟨fun m hm => ?_, fun m hm => ?_⟩
  · obtain ⟨p, hp, e2⟩ := key m hm
    have := h.len p hp
    have e3 : p.L = m.L := by unfold Ml.ab at e2; simp at e2; exact e2.2.2
    rw [← e3]; exact this
  · obtain ⟨p, hp, e2⟩ := key m hm
    have := (h.ok p hp).a0
    have e3 : p.f = m.f := by unfold Ml.ab at e2; simp at e2; exact e2.1
    rw [← e3]; exact this
def StepPost (w0 : World) (N B M C : Nat) (nodes most : Int) (K : Nat) (w : World) (e : Ending) (w' : World) : Prop :=
  e = .returned (.bool true) ∧ ∃ A', LX w0 N B M C nodes most (K + 1) A' w' ∧ Keeps (notT [34, 5, 77, 82]) w w'
theorem keeps2 {w w1 w2 : World} (h1 : Keeps (notT [34, 5]) w w1) (h2 : Keeps (notT [77, 82]) w1 w2) : Keeps (notT [34, 5, 77, 82]) w w2 :=
  (h1.weak (notT_weak (by simp))).trans (h2.weak (notT_weak (by simp)))
theorem keeps2' {w w1 w2 : World} (h1 : Keeps (notT [77, 82]) w w1) (h2 : Keeps (notT [34, 5]) w1 w2) : Keeps (notT [34, 5, 77, 82]) w w2 :=
  (h1.weak (notT_weak (by simp))).trans (h2.weak (notT_weak (by simp)))
end Go.Proofs.Ytklkhlipecphkaa
