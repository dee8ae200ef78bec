/- Link: a slice of messages that is resliced and appended to; bools and lists that come in. -/
import Derived.Test.YtklkhlipecphkaaLk
import Derived.ArgAppend
namespace Go.Proofs.Ytklkhlipecphkaa
open Go.RowKit Go.Joins Go.Maps Go.ChangeShapes Go.WideShapes Go.Deep
set_option maxRecDepth 100000
set_option linter.unusedVariables false

/-- A slice of one-cell elements in a block of its own, from some place on. -/
def Wnd (w : World) (base : Nat) (v : Value) (xs : List Value) : Prop :=
  (v = .slice none 0 0 ∧ xs = []) ∨ ∃ g off cap cur, v = .slice (some ⟨g, off, none⟩) xs.length cap ∧ base ≤ g ∧ w.heap[g]? = some (.cells cur 34 (0, 0)) ∧ xs.length ≤ cap ∧ off + cap ≤ cur.size ∧ cap ≤ maxLen ∧ ∀ (j : Nat) (u : Value), xs[j]? = some u → cur[off + j]? = some u
theorem Wnd.nil (w : World) (base : Nat) : Wnd w base (.slice none 0 0) [] := .inl ⟨rfl, rfl⟩
theorem Wnd.form {w : World} {base : Nat} {v : Value} {xs : List Value} (h : Wnd w base v xs) : ∃ oa cap, v = .slice oa xs.length cap := by
  rcases h with ⟨rfl, rfl⟩ | ⟨g, off, cap, cur, rfl, _⟩
  · exact ⟨none, 0, rfl⟩
  · exact ⟨_, cap, rfl⟩
theorem Wnd.of_own {w : World} {base n : Nat} {v : Value} {xs : List Value} (h : w.ownsRow base 34 1 v n xs) : Wnd w base v xs := by
  have hl : xs.length = n := by simpa using h.1
  rcases h.2 with ⟨rfl, h0⟩ | ⟨g, cap, cur, rfl, hb, hg, hnc, hcm, hcs, htake⟩
  · exact .inl ⟨rfl, List.eq_nil_of_length_eq_zero (by omega)⟩
  · refine .inr ⟨g, 0, cap, cur, by rw [hl], hb, hg, by omega, by omega, hcm, fun j u hu => ?_⟩
    have hj := (List.getElem?_eq_some_iff.1 hu).1
    rw [Nat.zero_add, ← Array.getElem?_toList]
    rw [← htake, List.getElem?_take] at hu
    split at hu
    · exact hu
    · cases hu
theorem Wnd.lt {w : World} {base : Nat} {v : Value} {xs : List Value} (h : Wnd w base v xs) : ∀ k, v.ownBlock = some k → base ≤ k ∧ k < w.heap.size := by
  rcases h with ⟨rfl, rfl⟩ | ⟨g, off, cap, cur, rfl, hb, hg, _⟩
  · intro k hk; simp [Value.ownBlock] at hk
  · intro k hk
    obtain rfl : g = k := by simpa [Value.ownBlock] using hk
    exact ⟨hb, (Array.getElem?_eq_some_iff.1 hg).1⟩
theorem Wnd.type {w : World} {base k : Nat} {v : Value} {xs : List Value} (h : Wnd w base v xs) (hk : v.ownBlock = some k) : ∃ c, w.heap[k]? = some (.cells c 34 (0, 0)) := by
  rcases h with ⟨rfl, rfl⟩ | ⟨g, off, cap, cur, rfl, hb, hg, _⟩
  · simp [Value.ownBlock] at hk
  · obtain rfl : g = k := by simpa [Value.ownBlock] using hk
    exact ⟨_, hg⟩
theorem Wnd.keep {w w' : World} {base : Nat} {v : Value} {xs : List Value} (h : Wnd w base v xs) (hk : ∀ k, v.ownBlock = some k → w'.heap[k]? = w.heap[k]?) : Wnd w' base v xs := by
  rcases h with h | ⟨g, off, cap, cur, rfl, hb, hg, rest⟩
  · exact .inl h
  · exact .inr ⟨g, off, cap, cur, rfl, hb, (hk g rfl).trans hg, rest⟩
theorem Wnd.chg {S : Nat → Prop} {w w' : World} {base : Nat} {v : Value} {xs : List Value} (h : Wnd w base v xs) (hc : Chg S w w') (hs : ∀ k, v.ownBlock = some k → ¬ S k) : Wnd w' base v xs :=
  h.keep (fun k hk => hc.block k (h.lt k hk).2 (hs k hk))
theorem Wnd.below {w w' : World} {base : Nat} {v : Value} {xs : List Value} (h : Wnd w base v xs) (hb : Below w.heap.size w w') : Wnd w' base v xs := h.keep (fun k hk => hb.block k (h.lt k hk).2)
theorem Wnd.head {w : World} {base : Nat} {v x : Value} {xs : List Value} (h : Wnd w base v (x :: xs)) : ∃ g off cap, v = .slice (some ⟨g, off, none⟩) (xs.length + 1) cap ∧ 1 ≤ cap ∧ w.cell? ⟨g, off, none⟩ = some x := by
  rcases h with ⟨_, h⟩ | ⟨g, off, cap, cur, rfl, hb, hg, h1, h2, h3, h4⟩
  · cases h
  · refine ⟨g, off, cap, rfl, by simp at h1; omega, ?_⟩
    have := h4 0 x rfl
    simp [World.cell?, hg]
    simpa using this
theorem Wnd.tail {w : World} {base g off n cap : Nat} {x : Value} {xs : List Value} (h : Wnd w base (.slice (some ⟨g, off, none⟩) n cap) (x :: xs)) :
    Wnd w base (.slice (some (if cap = 1 then ⟨g, off, none⟩ else ⟨g, off + 1, none⟩)) xs.length (cap - 1)) xs := by
  rcases h with ⟨h, _⟩ | ⟨g', off', cap', cur, e, hb, hg, h1, h2, h3, h4⟩
  · simp at h
  · simp at e
    obtain ⟨⟨rfl, rfl⟩, rfl, rfl⟩ := e
    simp at h1
    by_cases hc : cap = 1
    · rw [if_pos hc]
      have h0 : xs = [] := List.eq_nil_of_length_eq_zero (by omega)
      subst h0
      exact .inr ⟨g, off, cap - 1, cur, rfl, hb, hg, by simp, by omega, by omega, fun j u hu => by simp at hu⟩
    · rw [if_neg hc]
      refine .inr ⟨g, off + 1, cap - 1, cur, rfl, hb, hg, by omega, by omega, by omega, fun j u hu => ?_⟩
      have := h4 (j + 1) u (by simpa using hu)
      rw [← this]
      congr 1
      omega
theorem slice_one (g off m cap : Nat) (hi : 1 ≤ m) (W : World) : (Instr.slice 29 (.slice (some ⟨g, off, none⟩) m cap) (some (.int .i64 1)) none none).run Try.prog W = .ok (.slice (some (if cap = 1 then ⟨g, off, none⟩ else ⟨g, off + 1, none⟩)) (m - 1) (cap - 1)) W := by
  rw [run_slice_l (P := Try.prog) W 29 _ m cap (by kernel_rfl) .i64 1 (by omega) (by omega)]
  have e : ((1 : Int)).toNat = 1 := rfl
  have z : (sizeOf (Try.prog.elem 29)).run Try.prog W = .ok 1 W := by kernel_rfl
  rw [z, e]
  simp only [Result.andThen, sliced, Nat.mul_one]
  split
  · rfl
  · rw [Option.map_some, add_plain]
theorem wnd_append {w : World} {base : Nat} {v : Value} {xs : List Value} (h : Wnd w base v xs) (hlen : xs.length ≤ 1000) (hbase : base ≤ w.heap.size) (ad : Addr) (c : Nat) (u : Value) (hu : w.cell? ad = some u) (h1 : u.oneCell' = true) :
    ∃ v' w', (Builtin.append_ #[29, 29] 29 #[v, .slice (some ad) 1 c]).run Try.prog w = .ok v' w' ∧ Wnd w' base v' (xs ++ [u]) ∧ w.grownBy w' v.ownBlock ∧ (v'.ownBlock = v.ownBlock ∨ ∃ k, v'.ownBlock = some k ∧ w.heap.size ≤ k) := by
  obtain ⟨i0, ti, hz0, hz1, hz2⟩ := info_parts info34
  have hnews : ∀ j x, [u][j]? = some x → w.cell? (ad.add j) = some x := fun j x hx => by
    match j, hx with
    | 0, hx => simp at hx; subst hx; exact hu
    | j + 1, hx => simp at hx
  have hone : ∀ x ∈ [u], x.oneCell' = true := fun x hx => by simp at hx; subst hx; exact h1
  rcases h with ⟨rfl, rfl⟩ | ⟨g, off, cap, cur, rfl, hb, hg, hc1, hc2, hc3, hc4⟩
  · obtain ⟨v', w', hr, ho, hgr, -, hat⟩ := run_append_own_at (P := Try.prog) w base 29 29 34 i0 (.slice none 0 0) 1 24 rfl ti hz0 hz1 hz2 rfl (by decide) _ 0 [] (World.ownsRow_nil w base 34 1) ad 1 c [u] rfl hnews hone (by simp [maxLen]) (by omega) hbase
    refine ⟨v', w', hr, Wnd.of_own ho, hgr, ?_⟩
    rcases hat with hat | hat
    · exact .inl hat
    · exact .inr ⟨_, hat, Nat.le_refl _⟩
  · by_cases hroom : xs.length + 1 ≤ cap
    · have hr := run_append_room_cells (P := Try.prog) w 29 29 34 i0 rfl ti g off xs.length cap ad 1 c [u] (by rw [hz1]; rfl) hnews hone hroom
        (fun j hj => by
          simp at hj; subst hj
          rw [hz1]
          simp [World.cell?, hg]
          omega)
        (fun j hj => by
          simp at hj; subst hj
          rw [hz1]
          exact frozen_of_row w g _ cur 34 hg)
      rw [hz1, Nat.mul_one] at hr
      refine ⟨_, _, hr, .inr ⟨g, off, cap, cur.setIfInBounds (off + xs.length) u, by simp, hb, heap_setCell_same w g _ cur 34 u hg, by simpa using hroom, by simpa using hc2, hc3, fun j x hx => ?_⟩, grown_set _ _ _, .inl rfl⟩
      rw [List.getElem?_append] at hx
      split at hx
      · rename_i hj
        rw [Array.getElem?_setIfInBounds_ne (by omega)]
        exact hc4 j x hx
      · rename_i hj
        have : j = xs.length := by
          have := (List.getElem?_eq_some_iff.1 hx).1
          simp at this; omega
        subst this
        simp at hx
        subst hx
        rw [Array.getElem?_setIfInBounds_self_of_lt (by omega)]
    · obtain ⟨v', w', hr, ho, hgr⟩ := run_append_arg_grows (P := Try.prog) w 29 29 34 i0 (.slice none 0 0) 1 24 rfl ti hz0 hz1 hz2 rfl (by decide) ⟨g, off, none⟩ xs.length cap xs (by omega) (fun j x hx => by rw [add_plain]; simp [World.cell?, hg]; exact hc4 j x hx) ad 1 c [u] rfl hnews (by omega) (by simp [maxLen]; omega) (by omega)
      have hform := ho.lt
      refine ⟨v', w', hr, Wnd.of_own (row_mono ho hbase), World.grownBy.but hgr _, .inr ?_⟩
      rcases ownsRow_forms ho with ⟨_, h0⟩ | ⟨g2, c2, e⟩
      · omega
      · rw [e] at hform ⊢
        exact ⟨g2, rfl, (hform g2 rfl).1⟩
theorem wpList_append_run {P : Program} {ops : Array Oper} {rest : List Oper} {o : Oper} {a : Act} {w w4 : World} {Q : Exit → Act → World → Prop} {s x : Operand} {t : TypeId} {v y r : Value} (hgd : o.guard = none)
    (hop : o.op = Op.call { callee := Callee.builtin Builtin.append, args := #[s, x], argTypes := #[t, t] }) (hs : a.eval s = v) (hx : a.eval x = y)
    (hrun : (Builtin.append_ #[t, t] o.type #[v, y]).run P w = .ok r w4) (hK : wpList P ops Q rest (a.put o.dst r) w4) : wpList P ops Q (o :: rest) a w :=
  wpList_plain hgd fun _ hk => wp_append_run hop hs hx hrun (hk _ _ hK)

/-- A slice of bools that came in. -/
def IsBools (w : World) (a : Option Addr) (len cap : Nat) (T : Nat → Bool) : Prop := len ≤ maxLen ∧ (0 < len → ∃ x, a = some x ∧ ∀ j, j < len → w.cell? (x.add j) = some (.bool (T j)))
theorem bools_mk {H : Type} {enc : TypeId × Value → H} {w : World} {base fuel : Nat} {held : Bool} {a : Option Addr} {len cap : Nat} {y : DataW H × List MemPlace} (h : DataW.trod enc Try.prog w base (fun _ => true) held fuel 30 [.slice a len cap] = some y) :
    ∃ T, IsBools w a len cap T := by
  rcases open_slice Try.underlying30 h with ⟨hcs, _⟩ | ⟨x, l, c, m, n, D, Pl, hcs, _, hl, hm, hmm, _, hel⟩
  · simp at hcs
    obtain ⟨rfl, rfl, rfl⟩ := hcs
    exact ⟨fun _ => false, Nat.zero_le _, fun h => absurd h (by omega)⟩
  · simp at hcs
    obtain ⟨rfl, rfl, rfl⟩ := hcs
    simp at hmm
    subst hmm
    have c1 : Try.prog.cellsOf 4 = 1 := by kernel_rfl
    have each : ∀ j, j < len → ∃ b, w.cell? (x.add j) = some (.bool b) := by
      intro j hj
      obtain ⟨cs', h1, h2⟩ := hel j (by omega)
      rw [c1, Nat.mul_one] at h1
      obtain ⟨_, hlen, hcell⟩ := World.cells?_some h1
      match cs', hlen with
      | [v0], _ =>
        obtain ⟨b, e, _⟩ := DataW.trod_bool Try.underlying4 h2
        simp only [List.cons.injEq, and_true] at e
        subst e
        have f0 := hcell 0 (by omega)
        exact ⟨b, by simpa [Addr.add] using f0⟩
    obtain ⟨T, hT⟩ := choose_lt each
    exact ⟨T, by omega, fun _ => ⟨x, rfl, hT⟩⟩
/-- A slice of slices of bytes that came in. -/
def IsLists (w : World) (a : Option Addr) (len cap : Nat) (O : Nat → OpB) : Prop := len ≤ maxLen ∧ (0 < len → ∃ x, a = some x ∧ ∀ j, j < len → w.cell? (x.add j) = some (.slice (O j).ob (O j).lb (O j).cb) ∧ IsBytes w (O j).ob (O j).lb (O j).cb (O j).zs)
theorem lists_mk {H : Type} {enc : TypeId × Value → H} {w : World} {base fuel : Nat} {held : Bool} {a : Option Addr} {len cap : Nat} {y : DataW H × List MemPlace} (h : DataW.trod enc Try.prog w base (fun _ => true) held fuel 29 [.slice a len cap] = some y) :
    ∃ O, IsLists w a len cap O := by
  have : Inhabited OpB := ⟨⟨0, 0, 0, 0, 0, none, 0, 0, []⟩⟩
  rcases open_slice Try.underlying29 h with ⟨hcs, _⟩ | ⟨x, l, c, m, n, D, Pl, hcs, _, hl, hm, hmm, _, hel⟩
  · simp at hcs
    obtain ⟨rfl, rfl, rfl⟩ := hcs
    exact ⟨fun _ => default, Nat.zero_le _, fun h => absurd h (by omega)⟩
  · simp at hcs
    obtain ⟨rfl, rfl, rfl⟩ := hcs
    simp at hmm
    subst hmm
    have c1 : Try.prog.cellsOf 34 = 1 := by kernel_rfl
    have each : ∀ j, j < len → ∃ o : OpB, w.cell? (x.add j) = some (.slice o.ob o.lb o.cb) ∧ IsBytes w o.ob o.lb o.cb o.zs := by
      intro j hj
      obtain ⟨cs', h1, h2⟩ := hel j (by omega)
      rw [c1, Nat.mul_one] at h1
      obtain ⟨_, hlen, hcell⟩ := World.cells?_some h1
      match cs', hlen with
      | [v0], _ =>
        obtain ⟨oa, lb, cb, zs, rfl, hby⟩ := isBytes_mk h2
        have f0 := hcell 0 (by omega)
        exact ⟨⟨0, 0, 0, 0, 0, oa, lb, cb, zs⟩, by simpa [Addr.add] using f0, hby⟩
    obtain ⟨T, hT⟩ := choose_lt each
    exact ⟨T, by omega, fun _ => ⟨x, rfl, hT⟩⟩
end Go.Proofs.Ytklkhlipecphkaa
