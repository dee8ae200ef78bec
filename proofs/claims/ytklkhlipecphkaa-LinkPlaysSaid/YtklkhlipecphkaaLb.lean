/- Link: lay, Send. -/
import Derived.Test.YtklkhlipecphkaaLa
import Derived.Laws.AppendOwn
import Derived.Deep.RegionHeldLaw
import Derived.Maps.AppendAt
namespace Go.Proofs.Ytklkhlipecphkaa
open Go.RowKit Go.Joins Go.Maps
set_option maxRecDepth 100000
set_option linter.unusedVariables false

theorem info34 : (Try.prog.info? 34).map (fun i => (i.zero, i.size, i.bytes)) = some (some (.slice none 0 0), 1, 24) := by kernel_rfl
theorem info5 : (Try.prog.info? 5).map (fun i => (i.zero, i.size, i.bytes)) = some (some (.int .u8 0), 1, 1) := by kernel_rfl
theorem wp_append_run {P : Program} {o : Oper} {a : Act} {w w4 : World} {K : Act → World → Prop} {Q : Exit → Act → World → Prop} {s x : Operand} {t : TypeId} {v y r : Value}
    (hop : o.op = Op.call { callee := Callee.builtin Builtin.append, args := #[s, x], argTypes := #[t, t] }) (hs : a.eval s = v) (hx : a.eval x = y)
    (hrun : (Builtin.append_ #[t, t] o.type #[v, y]).run P w = .ok r w4) (hK : K (a.put o.dst r) w4) : Oper.wp P o a w K Q := by
  unfold Oper.wp
  simp [execOp, hop, resolve, invoke, builtin, hs, hx, hrun, Result.andThen]
  exact hK

def is5 (o : Obj) : Prop := ∃ c fz, o = .cells c 5 fz
def Keeps (S : Obj → Prop) (w w' : World) : Prop := ∀ (k : Nat) (o : Obj), S o → w.heap[k]? = some o → w'.heap[k]? = some o
theorem Keeps.refl (S : Obj → Prop) (w : World) : Keeps S w w := fun _ _ _ h => h
theorem Keeps.trans {S : Obj → Prop} {a b c : World} (h : Keeps S a b) (k : Keeps S b c) : Keeps S a c := fun i o hs ho => k i o hs (h i o hs ho)
theorem Keeps.of_grown {S : Obj → Prop} {w w' : World} {row : Option Nat} (hg : w.grownBy w' row) (hr : ∀ j o, row = some j → w.heap[j]? = some o → ¬ S o) : Keeps S w w' := fun k o hs ho => by
  rw [hg.block k (Array.getElem?_eq_some_iff.1 ho).1 (fun e => hr k o e.symm ho hs)]
  exact ho
theorem Keeps.of_below {S : Obj → Prop} {w w' : World} (h : Below w.heap.size w w') : Keeps S w w' := fun k o _ ho => (h.block k (Array.getElem?_eq_some_iff.1 ho).1).trans ho
theorem not5 (c : Array Value) (t : TypeId) (fz : Nat × Nat) (h : t ≠ 5) : ¬ is5 (.cells c t fz) := by rintro ⟨_, _, e⟩; cases e; exact h rfl
theorem not5m (es : Array MapEntry) (cl : Nat) : ¬ is5 (.map es cl) := by rintro ⟨_, _, e⟩; cases e
theorem row_ne {w : World} {base e size n B : Nat} {v : Value} {xs : List Value} {c : Array Value} {t : TypeId} {fz : Nat × Nat} (h : w.ownsRow base e size v n xs) (hb : w.heap[B]? = some (.cells c t fz)) (ht : t ≠ e) : some B ≠ v.ownBlock := by
  rcases h.2 with ⟨rfl, _⟩ | ⟨g, cap, cur, rfl, _, hg, _⟩
  · simp [Value.ownBlock]
  · intro e'
    obtain rfl : B = g := by simpa [Value.ownBlock] using e'
    rw [hg] at hb
    cases hb
    exact ht rfl
theorem row_ne_map {w : World} {base e size n M : Nat} {v : Value} {xs : List Value} {es : Array MapEntry} {cl : Nat} (h : w.ownsRow base e size v n xs) (hb : w.heap[M]? = some (.map es cl)) : some M ≠ v.ownBlock := by
  rcases h.2 with ⟨rfl, _⟩ | ⟨g, cap, cur, rfl, _, hg, _⟩
  · simp [Value.ownBlock]
  · intro e'
    obtain rfl : M = g := by simpa [Value.ownBlock] using e'
    rw [hg] at hb
    cases hb
theorem row_obj {w : World} {base e size n j : Nat} {v : Value} {xs : List Value} {o : Obj} (h : w.ownsRow base e size v n xs) (ej : v.ownBlock = some j) (ho : w.heap[j]? = some o) : ∃ c, o = .cells c e (0, 0) := by
  rcases h.2 with ⟨rfl, _⟩ | ⟨g, cap, cur, rfl, _, hg, _⟩
  · simp [Value.ownBlock] at ej
  · obtain rfl : g = j := by simpa [Value.ownBlock] using ej
    rw [hg] at ho
    cases ho
    exact ⟨cur, rfl⟩
theorem msg_keeps {w w' : World} {base n : Nat} {v : Value} {xs : List Value} (h : w.ownsRow base 5 1 v n xs) (hk : Keeps is5 w w') : w'.ownsRow base 5 1 v n xs := by
  refine ⟨h.1, ?_⟩
  rcases h.2 with hn | ⟨g, cap, cur, rfl, hb, hg, rest⟩
  · exact .inl hn
  · exact .inr ⟨g, cap, cur, rfl, hb, hk _ _ ⟨_, _, rfl⟩ hg, rest⟩
theorem ks_of {W : World} {B M T0 : Nat} {nodes most a b : Int} (hb : W.heap[B]? = some (.cells #[.int .i64 nodes, .int .i64 most, .map (some M)] 88 (0, 0))) (ht : W.heap[T0]? = some (.cells #[.int .i64 a, .int .i64 b] 92 (0, 0))) :
    W.cell? ⟨B, 2, none⟩ = some (.map (some M)) ∧ W.cell? ⟨T0, 0, none⟩ = some (.int .i64 a) ∧ W.cell? ⟨T0, 1, none⟩ = some (.int .i64 b) := by
  refine ⟨?_, ?_, ?_⟩ <;> simp [World.cell?, hb, ht]

set_option maxHeartbeats 1000000 in
theorem lay_full {N B M : Nat} {nodes most : Int} {f : Lit → Option Value} {n : Nat} {w : World} (h : Net N B M nodes most f n w) {a b : Int} {kl : Lit} (hkey : keyOf Try.prog 92 (wv a b) = some kl) {us : List Value}
    (hrow : w.ownsRow N 34 1 ((f kl).getD (.slice none 0 0)) us.length us) (hfull : most ≤ (us.length : Int)) (u : Value) :
    Calls Try.prog 49 #[.pointer (some ⟨B, 0, none⟩), .agg #[.int .i64 a, .int .i64 b], u] w fun e w' => e = .returned (.int .i64 170) ∧ Below w.heap.size w w' := by
  have hk := h.below ((Below.refl _ w).alloc (Nat.le_refl _) (Obj.cells #[.int .i64 a, .int .i64 b] 92))
  have hl := rows_look (w := (w.alloc (Obj.cells #[.int .i64 a, .int .i64 b] 92)).drew) hk.drew.map hkey
  obtain ⟨v, hv⟩ : ∃ v, v = (f kl).getD (.slice none 0 0) := ⟨_, rfl⟩
  rw [← hv] at hl hrow
  unfold wv at hl
  clear hv
  obtain ⟨m, hm⟩ : ∃ m, m = us.length := ⟨_, rfl⟩
  rw [← hm] at hrow hfull
  clear hm
  obtain ⟨oa, cap, rfl⟩ : ∃ oa cap, v = .slice oa m cap := by
    rcases ownsRow_forms hrow with ⟨h, h0⟩ | ⟨g, cp, h⟩
    · exact ⟨none, 0, by rw [h, h0]⟩
    · exact ⟨_, cp, h⟩
  have c2 := hk.c2; have c1 := hk.c1
  have t0 : (w.alloc (Obj.cells #[.int .i64 a, .int .i64 b] 92)).cell? ⟨w.heap.size, 0, none⟩ = some (.int .i64 a) := by simp [go_sem]
  have t1 : (w.alloc (Obj.cells #[.int .i64 a, .int .i64 b] 92)).cell? ⟨w.heap.size, 1, none⟩ = some (.int .i64 b) := by simp [go_sem]
  have d1 : decide (most ≤ (m : Int)) = true := decide_eq_true hfull
  have hb : Below w.heap.size w (w.alloc (Obj.cells #[.int .i64 a, .int .i64 b] 92)) := (Below.refl _ _).alloc (Nat.le_refl _) _
  have HB := Lib.hid hb
  clear hk hrow h hb
  go_enter Try.func49, Try.ntmps49
  go_wp2_with fail
  go_region_held (fun W => W.cell? ⟨B, 2, none⟩ = some (.map (some M)) ∧ W.cell? ⟨w.heap.size, 0, none⟩ = some (.int .i64 a) ∧ W.cell? ⟨w.heap.size, 1, none⟩ = some (.int .i64 b)) (exact ⟨c2, t0, t1⟩) (fail)
  go_wp2_with fail
  go_ret
  exact ⟨rfl, HB.out.drew⟩

/-- Of the blocks that were there only those in S are changed. -/
structure Chg (S : Nat → Prop) (w w' : World) : Prop where
  os : w'.os = w.os
  tape : w'.tape = w.tape
  output : w'.output = w.output
  size : w.heap.size ≤ w'.heap.size
  block : ∀ k, k < w.heap.size → ¬ S k → w'.heap[k]? = w.heap[k]?
theorem Chg.of_grown {S : Nat → Prop} {w w' : World} {row : Option Nat} (h : w.grownBy w' row) (hs : ∀ k, k < w.heap.size → some k = row → S k) : Chg S w w' := ⟨h.os, h.tape, h.output, h.size, fun k hk hn => h.block k hk (fun e => hn (hs k hk e))⟩
theorem Chg.of_below {S : Nat → Prop} {w w' : World} (h : Below w.heap.size w w') : Chg S w w' := ⟨h.os, h.tape, h.output, h.size, fun k hk _ => h.block k hk⟩
theorem Chg.trans {S T U : Nat → Prop} {a b c : World} (h : Chg S a b) (k : Chg T b c) (h1 : ∀ k, k < a.heap.size → S k → U k) (h2 : ∀ k, k < a.heap.size → T k → U k) : Chg U a c :=
  ⟨k.os.trans h.os, k.tape.trans h.tape, k.output.trans h.output, Nat.le_trans h.size k.size, fun i hi hn => (k.block i (Nat.lt_of_lt_of_le hi h.size) (fun e => hn (h2 i hi e))).trans (h.block i hi (fun e => hn (h1 i hi e)))⟩
theorem Chg.below {S : Nat → Prop} {w w' : World} (h : Chg S w w') {N : Nat} (hN : N ≤ w.heap.size) (hs : ∀ k, S k → N ≤ k) : Below N w w' := ⟨h.os, h.tape, h.output, h.size, fun k hk => h.block k (by omega) (fun e => by have := hs k e; omega)⟩
theorem Chg.keeps {S : Nat → Prop} {w w' : World} (h : Chg S w w') {T : Obj → Prop} (hs : ∀ k o, S k → w.heap[k]? = some o → ¬ T o) : Keeps T w w' := fun k o ht ho => (h.block k (Array.getElem?_eq_some_iff.1 ho).1 (fun e => hs k o e ho ht)).trans ho
/-- An owned row stays where its block is not changed. -/
theorem row_chg {S : Nat → Prop} {w w' : World} {base e size n : Nat} {v : Value} {xs : List Value} (h : w.ownsRow base e size v n xs) (hc : Chg S w w') (hs : ∀ k, v.ownBlock = some k → ¬ S k) : w'.ownsRow base e size v n xs := by
  refine ⟨h.1, ?_⟩
  rcases h.2 with hn | ⟨g, cap, cur, rfl, hb, hg, rest⟩
  · exact .inl hn
  · exact .inr ⟨g, cap, cur, rfl, hb, (hc.block g (Array.getElem?_eq_some_iff.1 hg).1 (hs g rfl)).trans hg, rest⟩
theorem row_type {w : World} {base e size n k : Nat} {v : Value} {xs : List Value} (h : w.ownsRow base e size v n xs) (hk : v.ownBlock = some k) : ∃ c, w.heap[k]? = some (.cells c e (0, 0)) := by
  rcases h.2 with ⟨rfl, _⟩ | ⟨g, cap, cur, rfl, _, hg, _⟩
  · simp [Value.ownBlock] at hk
  · obtain rfl : g = k := by simpa [Value.ownBlock] using hk
    exact ⟨_, hg⟩
theorem row_mono {w : World} {base base' e size n : Nat} {v : Value} {xs : List Value} (h : w.ownsRow base e size v n xs) (hb : base' ≤ base) : w.ownsRow base' e size v n xs := by
  refine ⟨h.1, ?_⟩
  rcases h.2 with hn | ⟨g, cap, cur, rfl, hb', rest⟩
  · exact .inl hn
  · exact .inr ⟨g, cap, cur, rfl, by omega, rest⟩

/-- A slice that holds these values, or none. -/
def Src (w : World) (v : Value) (bs : List Value) : Prop := (∃ ad cap, v = .slice (some ad) bs.length cap ∧ ∀ j u, bs[j]? = some u → w.cell? (ad.add j) = some u) ∨ (v = .slice none 0 0 ∧ bs = [])
theorem Src.form {w : World} {v : Value} {bs : List Value} (h : Src w v bs) : ∃ oad cap, v = .slice oad bs.length cap := by
  rcases h with ⟨ad, cap, rfl, _⟩ | ⟨rfl, rfl⟩
  · exact ⟨_, _, rfl⟩
  · exact ⟨_, _, rfl⟩
theorem lt_of_cell {w : World} {a : Addr} {u : Value} (c : w.cell? a = some u) : a.block < w.heap.size := by
  have : ∃ o, w.heap[a.block]? = some o := by
    cases e : w.heap[a.block]? with
    | none => simp [World.cell?, e] at c
    | some o => exact ⟨o, rfl⟩
  obtain ⟨o, ho⟩ := this
  exact (Array.getElem?_eq_some_iff.1 ho).1
theorem Src.below {w w' : World} {v : Value} {bs : List Value} (h : Src w v bs) (hb : Below w.heap.size w w') : Src w' v bs := by
  rcases h with ⟨ad, cap, rfl, hc⟩ | h
  · exact .inl ⟨ad, cap, rfl, fun j u hu => by rw [hb.cell (lt_of_cell (hc j u hu))]; exact hc j u hu⟩
  · exact .inr h
theorem Src.of_own {w : World} {base : Nat} {v : Value} {bs : List Value} (h : w.ownsRow base 5 1 v bs.length bs) : Src w v bs := by
  rcases ownsRow_forms h with ⟨rfl, h0⟩ | ⟨g, cap, rfl⟩
  · exact .inr ⟨rfl, List.eq_nil_of_length_eq_zero h0⟩
  · exact .inl ⟨_, cap, rfl, h.cells (g := g) rfl⟩

def LayPost (N B M : Nat) (nodes most : Int) (f : Lit → Option Value) (n : Nat) (kl : Lit) (us : List Value) (bs : List Value) (w : World) (e : Ending) (w' : World) : Prop :=
  e = .returned (.int .i64 0) ∧ ∃ v' u', Net N B M nodes most (lupd f kl (some v')) (n + 1) w' ∧ w'.ownsRow N 34 1 v' (us ++ [u']).length (us ++ [u']) ∧ w'.ownsRow N 5 1 u' bs.length bs ∧ (∀ k, u'.ownBlock = some k → w.heap.size ≤ k) ∧ Chg (fun k => some k = ((f kl).getD (.slice none 0 0)).ownBlock ∨ k = M) w w' ∧ (v'.ownBlock = ((f kl).getD (.slice none 0 0)).ownBlock ∨ ∃ k, v'.ownBlock = some k ∧ w.heap.size ≤ k)

set_option maxHeartbeats 4000000 in
theorem lay_ok {N B M : Nat} {nodes most : Int} {f : Lit → Option Value} {n : Nat} {w : World} (h : Net N B M nodes most f n w) (hn : n < maxLen) {a b : Int} {kl : Lit} (hkey : keyOf Try.prog 92 (wv a b) = some kl) {us : List Value}
    (hrow : w.ownsRow N 34 1 ((f kl).getD (.slice none 0 0)) us.length us) (hlt : (us.length : Int) < most) (hm : most ≤ 64) {sv : Value} {bs : List Value} (hs : Src w sv bs) (hlen : bs.length ≤ 70000) (h1c : ∀ u ∈ bs, u.oneCell' = true) :
    Calls Try.prog 49 #[.pointer (some ⟨B, 0, none⟩), .agg #[.int .i64 a, .int .i64 b], sv] w (LayPost N B M nodes most f n kl us bs w) := by
  obtain ⟨i0, hi, hz0, hz1, hz2⟩ := info_parts info34
  obtain ⟨i5, gi, gz0, gz1, gz2⟩ := info_parts info5
  have hT : (w.alloc (Obj.cells #[.int .i64 a, .int .i64 b] 92)).heap[w.heap.size]? = some (.cells #[.int .i64 a, .int .i64 b] 92 (0, 0)) := (MapKept.heap_alloc w _).1
  have hal : Below w.heap.size w (w.alloc (Obj.cells #[.int .i64 a, .int .i64 b] 92)) := (Below.refl _ w).alloc (Nat.le_refl _) _
  have hk := h.below hal
  have hNs : N ≤ w.heap.size := Nat.le_trans h.hB (Nat.le_of_lt h.lt)
  have hl := rows_look (w := (w.alloc (Obj.cells #[.int .i64 a, .int .i64 b] 92)).drew) hk.drew.map hkey
  obtain ⟨v, hv⟩ : ∃ v, v = (f kl).getD (.slice none 0 0) := ⟨_, rfl⟩
  rw [← hv] at hl hrow
  unfold wv at hl
  obtain ⟨m, hmm⟩ : ∃ m, m = us.length := ⟨_, rfl⟩
  have hrow0 := hrow
  rw [← hmm] at hrow hlt
  have hmlt : m < w.heap.size + 70 := by omega
  obtain ⟨oa, cp, rfl⟩ : ∃ oa cap, v = .slice oa m cap := by
    rcases ownsRow_forms hrow with ⟨h, h0⟩ | ⟨g, cp, h⟩
    · exact ⟨none, 0, by rw [h, h0]⟩
    · exact ⟨_, cp, h⟩
  have W1size : (w.alloc (Obj.cells #[.int .i64 a, .int .i64 b] 92)).heap.size = w.heap.size + 1 := World.size_alloc _ _
  obtain ⟨W1, hW1⟩ : ∃ W1, W1 = w.alloc (Obj.cells #[.int .i64 a, .int .i64 b] 92) := ⟨_, rfl⟩
  rw [← hW1] at hT hal hk hl W1size
  obtain ⟨T0, hT0⟩ : ∃ T0, T0 = w.heap.size := ⟨_, rfl⟩
  rw [← hT0] at hT hal hNs hmlt W1size
  -- the empty copy, then the copy
  obtain ⟨W2, hW2⟩ : ∃ W2, W2 = (W1.alloc (.cells #[] 5)).drew.drew := ⟨_, rfl⟩
  have s2 : W2.heap.size = T0 + 2 := by rw [hW2]; show (W1.alloc _).heap.size = _; rw [World.size_alloc]; omega
  have b2 : Below T0 w W2 := by rw [hW2]; exact (hal.alloc (by omega) _).drew.drew
  have own0 : W2.ownsRow T0 5 1 (.slice (some ⟨T0 + 1, 0, none⟩) 0 0) 0 [] := by
    have := World.ownsRow_lit (base := T0) (e := 5) (size := 1) W1 #[] 0 (by omega) (by simp [maxLen]) rfl
    rw [W1size] at this
    rw [hW2]
    exact this.drew.drew
  obtain ⟨len, hbl⟩ : ∃ len, bs.length = len := ⟨_, rfl⟩
  rw [hbl] at hlen
  obtain ⟨u', W3, hr1, own1, hg1⟩ : ∃ u' W3, (Builtin.append_ #[34, 34] 34 #[.slice (some ⟨T0 + 1, 0, none⟩) 0 0, sv]).run Try.prog W2 = .ok u' W3 ∧ W3.ownsRow T0 5 1 u' len bs ∧ W2.grownBy W3 (some (T0 + 1)) := by
    rcases hs with ⟨ad, cap, rfl, hc⟩ | ⟨rfl, rfl⟩
    · obtain ⟨u', W3, hr1, own1, hg1, -⟩ := run_append_own W2 T0 34 34 5 i5 (.int .u8 0) 1 1 rfl gi gz0 gz1 gz2 rfl (by decide) _ 0 [] own0 ad bs.length cap bs (by omega)
        (fun j u hu => by
          have c := hc j u hu
          have := lt_of_cell c
          rw [b2.cell (by omega)]; exact c) h1c (by simp only [maxLen]; omega) (by omega) (by omega)
      rw [Nat.zero_add, List.nil_append, hbl] at own1
      exact ⟨u', W3, hr1, own1, hg1⟩
    · simp at hbl
      subst hbl
      exact ⟨_, W2, run_append_owned_none W2 T0 34 34 5 i5 1 rfl gi _ 0 [] own0, own0, World.grownBy.refl _ _⟩
  have s3 := hg1.size
  have b3 : Below T0 w W3 := b2.grown hg1 (by omega) (fun k e => by simp only [Option.some.injEq] at e; omega)
  obtain ⟨ou, cu, hu'⟩ : ∃ ou cu, u' = .slice ou len cu := by
    rcases ownsRow_forms own1 with ⟨h, h0⟩ | ⟨g, cp, h⟩
    · exact ⟨none, 0, by rw [h, h0]⟩
    · exact ⟨_, cp, h⟩
  subst hu'
  obtain ⟨u', hu'⟩ : ∃ u', u' = Value.slice ou len cu := ⟨_, rfl⟩
  rw [← hu'] at own1 hr1
  obtain ⟨W4, hW4⟩ : ∃ W4, W4 = W3.alloc (.cells #[u'] 34) := ⟨_, rfl⟩
  have b4 : Below T0 w W4 := by rw [hW4]; exact b3.alloc (by omega) _
  have row4 := hrow.kept (grown_of_below (by rw [← hT0]; exact b4)) (by cases (Value.slice oa m cp).ownBlock <;> simp)
  have one : u'.oneCell' = true := by
    rcases ownsRow_forms own1 with ⟨e, -⟩ | ⟨g, cp, e⟩ <;> rw [e] <;> rfl
  obtain ⟨v', W5, hr2, own2, hg2, -, hat⟩ := run_append_own_at W4 N 29 29 34 i0 (.slice none 0 0) 1 24 rfl hi hz0 hz1 hz2 rfl (by decide) _ m us row4 ⟨W3.heap.size, 0, none⟩ 1 1 [u'] rfl
    (fun j u hu => by
      match j, hu with
      | 0, hu =>
        simp at hu; subst hu; rw [hW4]
        simp [go_sem, Addr.add]
      | j + 1, hu => simp at hu) (fun u hu => by simp at hu; subst hu; exact one) (by simp only [maxLen]; omega) (by omega) (by have := b4.size; omega)
  have n4 : Net N B M nodes most f n W4 := h.below (by rw [← hT0]; exact b4)
  obtain ⟨es, cl, hm4⟩ := rows_isMap n4.map
  have n5 : Net N B M nodes most f n W5 := n4.kept hg2 (row_ne row4 n4.box (by decide)) (row_ne_map row4 hm4)
  obtain ⟨W6, hr3, hm6, hg3⟩ := rows_put n5.map hn hkey v'
  unfold wv at hr3
  have n6 := n5.put hg3 hm6
  obtain ⟨es5, cl5, hm5⟩ := rows_isMap n5.map
  have nv : v'.ownBlock = none ∨ v'.ownBlock ≠ some M := .inr (fun e => row_ne_map own2 hm5 e.symm)
  have k4 : Keeps is5 W4 W5 := Keeps.of_grown hg2 (fun j o e ho => by
    obtain ⟨c, rfl⟩ := row_obj row4 e ho
    exact not5 _ _ _ (by decide))
  have k5 : Keeps is5 W5 W6 := Keeps.of_grown hg3 (fun j o e ho => by
    cases e
    rw [hm5] at ho
    cases ho
    exact not5m _ _)
  have own4 : W4.ownsRow T0 5 1 u' len bs := by rw [hW4]; exact own1.alloc _
  have own6 := msg_keeps own4 (k4.trans k5)
  have post : LayPost N B M nodes most f n kl us bs w (.returned (.int .i64 0)) W6 := by
    refine ⟨rfl, v', u', n6, ?_, ?_, fun k e => ?_, ?_, ?_⟩
    · rw [List.length_append]; have := own2.kept hg3 nv; rw [hmm] at this; exact this
    · refine ⟨by omega, ?_⟩
      rcases own6.2 with ⟨e, e2⟩ | ⟨g, cap, cur, e, hb, hg, hle, rest⟩
      · exact .inl ⟨e, by omega⟩
      · exact .inr ⟨g, cap, cur, by rw [hbl]; exact e, by omega, hg, by omega, by rw [hbl]; exact rest⟩
    · rw [← hT0]; exact (own6.lt k e).1
    · rw [← hv]
      refine Chg.trans (S := fun _ => False) (T := fun k => some k = (Value.slice oa m cp).ownBlock ∨ k = M) (Chg.of_below (by rw [← hT0]; exact b4)) ?_ (fun _ _ h => h.elim) (fun _ _ h => h)
      exact Chg.trans (S := fun k => some k = (Value.slice oa m cp).ownBlock) (T := fun k => k = M) (Chg.of_grown hg2 (fun _ _ e => e)) (Chg.of_grown hg3 (fun _ _ e => by cases e; rfl)) (fun _ _ h => .inl h) (fun _ _ h => .inr h)
    · rw [← hv]
      rcases hat with hat | hat
      · exact .inl hat
      · exact .inr ⟨_, hat, b4.size⟩
  have c2 := hk.c2; have c1 := hk.c1
  have d1 : decide (most ≤ (m : Int)) = false := decide_eq_false (by omega)
  have k1 := ks_of (W := W1) (B := B) (T0 := T0) (M := M) hk.box hT
  have q2 : Below (T0 + 1) W1 W2 := by rw [hW2]; exact ((Below.refl _ W1).alloc (by omega) _).drew.drew
  have q3 : Below (T0 + 1) W1 W3 := q2.grown hg1 (by omega) (fun k e => by simp only [Option.some.injEq] at e; omega)
  have q4 : Below (T0 + 1) W1 W4 := by rw [hW4]; exact q3.alloc (by omega) _
  have hT4 : W4.heap[T0]? = some (.cells #[.int .i64 a, .int .i64 b] 92 (0, 0)) := (q4.block T0 (by omega)).trans hT
  have k2 := ks_of (B := B) (T0 := T0) (M := M) (h.below (by rw [← hT0]; exact b2)).box ((q2.block T0 (by omega)).trans hT)
  have k3 := ks_of (B := B) (T0 := T0) (M := M) (h.below (by rw [← hT0]; exact b3)).box ((q3.block T0 (by omega)).trans hT)
  have k4' := ks_of (W := W4) (B := B) (T0 := T0) (M := M) n4.box hT4
  have hT5 := (hg2.block T0 (by have := b4.size; have := q4.size; omega) (row_ne row4 hT4 (by decide))).trans hT4
  have k6 := ks_of (W := W6) (B := B) (T0 := T0) (M := M) n6.box ((hg3.block T0 (Array.getElem?_eq_some_iff.1 hT5).1 (fun e => by cases e; rw [hm5] at hT5; cases hT5)).trans hT5)
  have k5' := ks_of (W := W5) (B := B) (T0 := T0) (M := M) n5.box ((hg2.block T0 (by have := b4.size; have := q4.size; omega) (row_ne row4 hT4 (by decide))).trans hT4)
  have HW1 := Lib.hid hW1; have HW2 := Lib.hid hW2; have HW4 := Lib.hid hW4; have HT0 := Lib.hid hT0
  have HP := Lib.hid post
  subst hu'
  clear hmm hv post hW1 hW2 hW4 hT0 n4 n5 n6 hk h hrow hrow0 own0 own1 own2 own4 own6 hg1 hg2 hg3 k4 k5 b2 b3 b4 hal hm6 q2 q3 q4
  go_enter Try.func49, Try.ntmps49
  go_wp2_with fail
  rw [← HW1.out, ← HT0.out]
  go_region_held (fun W => W.cell? ⟨B, 2, none⟩ = some (.map (some M)) ∧ W.cell? ⟨T0, 0, none⟩ = some (.int .i64 a) ∧ W.cell? ⟨T0, 1, none⟩ = some (.int .i64 b)) (exact k1) (fail)
  go_wp2_with fail
  try rw [← HW2.out]
  go_region_held_law (fun W => W.cell? ⟨B, 2, none⟩ = some (.map (some M)) ∧ W.cell? ⟨T0, 0, none⟩ = some (.int .i64 a) ∧ W.cell? ⟨T0, 1, none⟩ = some (.int .i64 b)) (first | exact k1 | (rw [← HW2.out]; exact k2) | exact k3 | (rw [← HW4.out]; exact k4') | exact k5' | exact k6) (first
    | (rw [if_pos (by rfl)]; refine wp_append_run (s := .tmp 27) (x := .tmp 28) (t := 34) rfl (by rfl) (by rfl) (HW2.out ▸ hr1) ?_)
    | (rw [if_pos (by rfl)]; refine wp_append_run (s := .tmp 26) (x := .tmp 30) (t := 29) rfl (by rfl) (by rfl) (HW4.out ▸ hr2) ?_))
  go_wp2_with fail
  go_ret
  exact HP.out
end Go.Proofs.Ytklkhlipecphkaa
