/- Link: the law LinkRows. -/
import Derived.Test.YtklkhlipecphkaaLl
namespace Go.Proofs.Ytklkhlipecphkaa
open Go.RowKit Go.Joins Go.Maps
set_option maxRecDepth 100000
set_option linter.unusedVariables false

theorem k21 : (keyOf Try.prog 92 (wv 2 1)).isSome = true := by kernel_rfl
theorem k12 : (keyOf Try.prog 92 (wv 1 2)).isSome = true := by kernel_rfl
theorem k20 : (keyOf Try.prog 92 (wv 2 0)).isSome = true := by kernel_rfl
theorem key_ne {a b c d : Int} {k l : Lit} (h : keyOf Try.prog 92 (wv a b) = some k) (h2 : keyOf Try.prog 92 (wv c d) = some l) (hne : ¬ (a = c ∧ b = d)) : k ≠ l := by
  intro e
  subst e
  have := lawW.inj h h2
  simp [wv] at this
  exact hne this
theorem bytes_len {w : World} {oa : Option Addr} {len cap : Nat} {zs : List Int} (h : IsBytes w oa len cap zs) : (zs.take len).length = len := by
  rcases h with ⟨rfl, rfl, rfl, rfl⟩ | ⟨x, rfl, h1, h2, h3, _⟩
  · rfl
  · rw [List.length_take]; omega
theorem bytes_reads {w : World} {oa : Option Addr} {len cap : Nat} {zs : List Int} (h : IsBytes w oa len cap zs) : Reads w (.slice oa len cap) (zs.take len) := by
  have hl := bytes_len h
  refine ⟨oa, cap, by rw [hl], fun j hj => ?_⟩
  rcases h with ⟨rfl, rfl, rfl, rfl⟩ | ⟨x, rfl, h1, h2, h3, h4, _⟩
  · simp at hj
  · refine ⟨x, rfl, ?_⟩
    rw [h4 j (by omega)]
    have : j < len := by omega
    simp [nth, List.getD_eq_getElem?_getD, this]
theorem reads_src {w : World} {v : Value} {L : List Int} (h : Reads w v L) : Src w v (by8 L) ∨ L = [] := by
  obtain ⟨oa, cap, rfl, h⟩ := h
  rcases Nat.eq_zero_or_pos L.length with h0 | h0
  · exact .inr (List.eq_nil_of_length_eq_zero h0)
  · obtain ⟨a, rfl, _⟩ := h 0 h0
    refine .inl (.inl ⟨a, cap, by rw [by8_len], fun j u hu => ?_⟩)
    have hj : j < L.length := by
      have := (List.getElem?_eq_some_iff.1 hu).1
      rwa [by8_len] at this
    obtain ⟨a', e, hc⟩ := h j hj
    cases e
    rw [hc]
    simpa [by8, nth, List.getD_eq_getElem?_getD, hj] using hu
theorem bytes_src {w : World} {oa : Option Addr} {len cap : Nat} {zs : List Int} (h : IsBytes w oa len cap zs) : Src w (.slice oa len cap) (by8 (zs.take len)) := by
  rcases reads_src (bytes_reads h) with hs | h0
  · exact hs
  · have hl := bytes_len h
    rw [h0] at hl ⊢
    rcases h with ⟨rfl, rfl, rfl, rfl⟩ | ⟨x, rfl, h1, h2, h3, h4, _⟩
    · exact .inr ⟨rfl, rfl⟩
    · refine .inl ⟨x, cap, ?_, fun j u hu => by simp [by8] at hu⟩
      simp at hl
      simp [by8, ← hl]

/-- What the law's loop keeps: the line's row, and the slice of what waits. -/
structure RR (w : World) (N B M most : Nat) (f : Lit → Option Value) (n : Nat) (kl kb kc : Lit) (us ws : List Value) (cs : List (List Int)) (v9 : Value) (W : World) : Prop where
  net : Net N B M 3 most f n W
  row : W.ownsRow N 34 1 ((f kl).getD (.slice none 0 0)) us.length us
  nb : f kb = none
  nc : f kc = none
  wnd : Wnd W N v9 ws
  apart : ∀ k, v9.ownBlock = some k → ((f kl).getD (.slice none 0 0)).ownBlock ≠ some k
  lu : us.length = cs.length
  lw : ws.length = cs.length
  le : cs.length ≤ most
  msg : ∀ (i : Nat) (c : List Int), cs[i]? = some c → ∃ u v, us[i]? = some u ∧ ws[i]? = some v ∧ W.ownsRow N 5 1 u (by8 c).length (by8 c) ∧ Reads w v c ∧ c.length ≤ 300
  bel : Below w.heap.size w W
  hN : w.heap.size ≤ N
theorem RR.below {w : World} {N B M most : Nat} {f : Lit → Option Value} {n : Nat} {kl kb kc : Lit} {us ws : List Value} {cs : List (List Int)} {v9 : Value} {W W' : World} (h : RR w N B M most f n kl kb kc us ws cs v9 W) (hb : Below W.heap.size W W') : RR w N B M most f n kl kb kc us ws cs v9 W' :=
  { net := h.net.below hb, row := row_below h.row hb, nb := h.nb, nc := h.nc, wnd := h.wnd.below hb, apart := h.apart, lu := h.lu, lw := h.lw, le := h.le, hN := h.hN, bel := h.bel.trans (hb.mono h.bel.size),
    msg := fun i c hc => by
      obtain ⟨u, v, h1, h2, h3, h4, h5⟩ := h.msg i c hc
      exact ⟨u, v, h1, h2, row_below h3 hb, h4, h5⟩ }
theorem reads_one {w : World} {v : Value} {L : List Int} (h : Reads w v L) : v.oneCell' = true := by
  obtain ⟨oa, cap, rfl, _⟩ := h
  rfl
theorem own_one {w : World} {base e size n : Nat} {v : Value} {xs : List Value} (h : w.ownsRow base e size v n xs) : v.oneCell' = true := by
  rcases ownsRow_forms h with ⟨rfl, _⟩ | ⟨g, cp, rfl⟩ <;> rfl
theorem RR.one {w : World} {N B M most : Nat} {f : Lit → Option Value} {n : Nat} {kl kb kc : Lit} {us ws : List Value} {cs : List (List Int)} {v9 : Value} {W : World} (h : RR w N B M most f n kl kb kc us ws cs v9 W) : ∀ x ∈ us, x.oneCell' = true := fun x hx => by
  obtain ⟨i, hi, e⟩ := List.getElem_of_mem hx
  obtain ⟨c, hc⟩ : ∃ c, cs[i]? = some c := ⟨cs[i]'(by rw [← h.lu]; exact hi), by simp⟩
  obtain ⟨u, v, h1, -, h3, -⟩ := h.msg i c hc
  rw [List.getElem?_eq_getElem hi, e] at h1
  cases h1
  exact own_one h3
theorem rr_push {w : World} {N B M most : Nat} {f : Lit → Option Value} {n : Nat} {kl kb kc : Lit} {us ws : List Value} {cs : List (List Int)} {v9 v : Value} {c : List Int} {W W' : World} {e : Ending} (h : RR w N B M most f n kl kb kc us ws cs v9 W) (hlt : cs.length < most) (hm : most ≤ 64) (hb : kb ≠ kl) (hcc : kc ≠ kl)
    (hp : LayPost N B M 3 most f n kl us (by8 c) W e W') (hv : Reads w v c) (hc3 : c.length ≤ 300) :
    ∃ v9' W2 us' f', (Builtin.append_ #[29, 29] 29 #[v9, .slice (some ⟨W'.heap.size, 0, none⟩) 1 1]).run Try.prog (W'.alloc (.cells #[v] 34)) = .ok v9' W2 ∧ RR w N B M most f' (n + 1) kl kb kc us' (ws ++ [v]) (cs ++ [c]) v9' W2 := by
  obtain ⟨-, v', u', n', row', msg', fr', ch', at'⟩ := hp
  have keeps := lay_keeps h.net h.row ch'
  obtain ⟨es, cl, hM⟩ := rows_isMap h.net.map
  have wnd' := h.wnd.chg ch' (fun k hk hs => by
    rcases hs with hs | rfl
    · exact h.apart k hk hs.symm
    · obtain ⟨c, hc⟩ := h.wnd.type hk
      rw [hc] at hM; cases hM)
  have cb' : Below w.heap.size w W' := h.bel.trans (ch'.below h.bel.size (fun k hk => by
    rcases hk with hk | rfl
    · exact Nat.le_trans h.hN (h.row.lt k hk.symm).1
    · exact Nat.le_trans h.hN h.net.hM))
  have A := (Below.refl _ W').alloc (Nat.le_refl _) (.cells #[v] 34)
  have wnd1 := wnd'.below A
  have hN' : N ≤ W'.heap.size := Nat.le_trans n'.hB (Nat.le_of_lt n'.lt)
  obtain ⟨v9', W2, hr, wnd2, hg, hat⟩ := wnd_append wnd1 (by have := h.lw; omega) (by rw [World.size_alloc]; omega) ⟨W'.heap.size, 0, none⟩ 1 v (by unfold World.cell?; rw [(MapKept.heap_alloc W' (.cells #[v] 34)).1]; rfl) (reads_one hv)
  have apart1 : ∀ k, v9.ownBlock = some k → v'.ownBlock ≠ some k := fun k hk e => by
    rcases at' with at' | ⟨k2, e2, hk2⟩
    · rw [at'] at e
      exact h.apart k hk e
    · rw [e2] at e
      cases e
      have := (h.wnd.lt k hk).2
      omega
  have n1 := n'.below A
  have row1 := row_below row' A
  obtain ⟨es1, cl1, hM1⟩ := rows_isMap n1.map
  have nb9 : some B ≠ v9.ownBlock := fun e => by
    obtain ⟨c, hc⟩ := wnd1.type e.symm
    rw [n1.box] at hc; simp at hc
  have nm9 : some M ≠ v9.ownBlock := fun e => by
    obtain ⟨c, hc⟩ := wnd1.type e.symm
    rw [hM1] at hc; simp at hc
  have m5 : ∀ {u : Value} {xs : List Value} {k : Nat}, (W'.alloc (.cells #[v] 34)).ownsRow N 5 1 u k xs → W2.ownsRow N 5 1 u k xs := fun {u xs k} ho => ho.kept hg (by
    cases hk : u.ownBlock with
    | none => exact .inl rfl
    | some q =>
      refine .inr (fun e => ?_)
      obtain ⟨c1, hc1⟩ := row_type ho hk
      obtain ⟨c2, hc2⟩ := wnd1.type e.symm
      rw [hc1] at hc2; simp at hc2)
  refine ⟨v9', W2, us ++ [u'], lupd f kl (some v'), hr, ?_⟩
  refine { net := n1.kept hg nb9 nm9, row := ?_, nb := by rw [lupd_other _ _ hb, h.nb], nc := by rw [lupd_other _ _ hcc, h.nc], wnd := wnd2, apart := ?_, lu := by simp [h.lu], lw := by simp [h.lw], le := by simp; omega, msg := ?_, bel := ?_, hN := h.hN }
  · rw [lupd_same]
    refine row1.kept hg ?_
    show v'.ownBlock = none ∨ v'.ownBlock ≠ v9.ownBlock
    cases hk : v'.ownBlock with
    | none => exact .inl rfl
    | some q => exact .inr (fun e => apart1 q e.symm hk)
  · rw [lupd_same]
    intro k hk e
    rcases hat with hat | ⟨k2, e2, hk2⟩
    · exact apart1 k (by rw [← hat]; exact hk) e
    · rw [e2] at hk
      cases hk
      have := (row1.lt k e).2
      omega
  · intro i c' hc'
    rw [List.getElem?_append] at hc'
    split at hc'
    · rename_i hi
      obtain ⟨u, x, h1, h2, h3, h4, h5⟩ := h.msg i c' hc'
      refine ⟨u, x, ?_, ?_, m5 (row_below (msg_keeps h3 keeps) A), h4, h5⟩
      · rw [List.getElem?_append_left (by rw [h.lu]; exact hi)]; exact h1
      · rw [List.getElem?_append_left (by rw [h.lw]; exact hi)]; exact h2
    · rename_i hi
      have hi2 : i = cs.length := by
        have := (List.getElem?_eq_some_iff.1 hc').1
        simp at this; omega
      subst hi2
      simp at hc'
      subst hc'
      refine ⟨u', v, ?_, ?_, m5 (row_below msg' A), hv, hc3⟩
      · rw [← h.lu]; simp
      · rw [← h.lw]; simp
  · have c1 : Below w.heap.size w (W'.alloc (.cells #[v] 34)) := cb'.alloc cb'.size _
    exact c1.grown hg c1.size (fun k e => Nat.le_trans h.hN (wnd1.lt k e).1)
theorem rr_pop {w : World} {N B M most : Nat} {f : Lit → Option Value} {n : Nat} {kl kb kc : Lit} {us ws : List Value} {cs : List (List Int)} {u v : Value} {c : List Int} {g off m cap : Nat} {W W' : World} {e : Ending} (h : RR w N B M most f n kl kb kc (u :: us) (v :: ws) (c :: cs) (.slice (some ⟨g, off, none⟩) m cap) W) (hb : kb ≠ kl) (hcc : kc ≠ kl)
    (hp : TakePost N B M 3 most f n kl (u :: us) 0 u W e W') :
    W'.cell? ⟨g, off, none⟩ = some v ∧ Reads W' u c ∧ Reads W' v c ∧ ∃ f' n', n' ≤ n + 1 ∧ RR w N B M most f' n' kl kb kc us ws cs (.slice (some (if cap = 1 then ⟨g, off, none⟩ else ⟨g, off + 1, none⟩)) (m - 1) (cap - 1)) W' := by
  obtain ⟨-, v', n', hn', net', row', fr', ch'⟩ := hp
  have keeps := take_keeps h.net ch'
  obtain ⟨es, cl, hM⟩ := rows_isMap h.net.map
  have wnd' := h.wnd.chg ch' (fun k hk hs => by
    subst hs
    obtain ⟨c, hc⟩ := h.wnd.type hk
    rw [hc] at hM; cases hM)
  have cb' : Below w.heap.size w W' := h.bel.trans (ch'.below h.bel.size (fun k hk => by rw [hk]; exact Nat.le_trans h.hN h.net.hM))
  obtain ⟨g2, off2, cap2, e2, hc2, hcell⟩ := wnd'.head
  simp at e2
  obtain ⟨⟨rfl, rfl⟩, rfl, rfl⟩ := e2
  obtain ⟨u0, v0, h1, h2, h3, h4, h5⟩ := h.msg 0 c rfl
  simp at h1 h2
  subst h1 h2
  refine ⟨hcell, Reads.of_owns (msg_keeps h3 keeps), h4.below cb', lupd f kl v', n', hn', ?_⟩
  refine { net := net', row := by rw [lupd_same]; exact row', nb := by rw [lupd_other _ _ hb, h.nb], nc := by rw [lupd_other _ _ hcc, h.nc], wnd := wnd'.tail, apart := ?_, lu := by have := h.lu; simpa using this, lw := by have := h.lw; simpa using this, le := by have := h.le; simp at this; omega, msg := ?_, bel := cb', hN := h.hN }
  · rw [lupd_same]
    intro k hk e
    have a1 := fr' k e
    have hg : g = k := by
      split at hk <;> simpa [Value.ownBlock] using hk
    subst hg
    have a2 := (h.wnd.lt g rfl).2
    omega
  · intro i c' hc'
    obtain ⟨u, x, h1, h2, h3, h4, h5⟩ := h.msg (i + 1) c' (by simpa using hc')
    exact ⟨u, x, by simpa using h1, by simpa using h2, msg_keeps h3 keeps, h4, h5⟩
end Go.Proofs.Ytklkhlipecphkaa
