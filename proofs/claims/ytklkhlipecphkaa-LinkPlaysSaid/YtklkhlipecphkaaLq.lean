/- Link: the program's line and the document's, as lists of what waits. -/
import Derived.Test.YtklkhlipecphkaaLp
namespace Go.Proofs.Ytklkhlipecphkaa
open Go.RowKit Go.Joins Go.Maps
set_option maxRecDepth 100000
set_option linter.unusedVariables false

def blk (f : Lit → Option Value) (kl : Lit) : Option Nat := ((f kl).getD (.slice none 0 0)).ownBlock
theorem rows_same {w w' : World} {b n : Nat} {f : Lit → Option Value} (h : World.rows w b n f) (e : w'.heap[b]? = w.heap[b]?) : World.rows w' b n f := by
  obtain ⟨D, ⟨es, cl, hm, r⟩, hv⟩ := h
  exact ⟨D, ⟨es, cl, e.trans hm, r⟩, hv⟩
theorem Net.same {N B M : Nat} {nodes most : Int} {f : Lit → Option Value} {n : Nat} {w w' : World} (h : Net N B M nodes most f n w) (e1 : w'.heap[B]? = w.heap[B]?) (e2 : w'.heap[M]? = w.heap[M]?) : Net N B M nodes most f n w' :=
  ⟨h.hB, h.hM, h.ne, e1.trans h.box, rows_same h.map e2⟩

/-- The program's line, its messages in the order in which they were sent. -/
structure PH (N B M : Nat) (nodes most : Int) (f : Lit → Option Value) (n : Nat) (ps : List Ml) (w : World) : Prop where
  net : Net N B M nodes most f n w
  row : ∀ a b kl, OkW nodes a b → keyOf Try.prog 92 (wv a b) = some kl → w.ownsRow N 34 1 ((f kl).getD (.slice none 0 0)) (usOf ps a b).length (usOf ps a b)
  dom : ∀ kl v, f kl = some v → ∃ a b, OkW nodes a b ∧ keyOf Try.prog 92 (wv a b) = some kl
  rap : ∀ kl kl' k, kl ≠ kl' → blk f kl = some k → blk f kl' ≠ some k
  full : ∀ a b, ((usOf ps a b).length : Int) ≤ most
  ok : ∀ m ∈ ps, OkW nodes m.f m.t
  msg : ∀ m ∈ ps, w.ownsRow N 5 1 m.v (by8 m.L).length (by8 m.L)
  len : ∀ m ∈ ps, m.L.length ≤ 300
  ap : ps.Pairwise (fun x y => ∀ k, x.v.ownBlock = some k → y.v.ownBlock ≠ some k)
theorem PH.chg {N B M : Nat} {nodes most : Int} {f : Lit → Option Value} {n : Nat} {ps : List Ml} {w w' : World} {S : Nat → Prop} (h : PH N B M nodes most f n ps w) (hc : Chg S w w')
    (hs : ∀ k o, S k → w.heap[k]? = some o → (∃ c t fz, o = .cells c t fz ∧ t ≠ 88 ∧ t ≠ 34) ∧ ∀ m ∈ ps, m.v.ownBlock ≠ some k) : PH N B M nodes most f n ps w' := by
  obtain ⟨es, cl, hM⟩ := rows_isMap h.net.map
  refine { net := h.net.same (hc.block B h.net.lt fun s => ?_) (hc.block M (rows_lt h.net.map) fun s => ?_), row := fun a b kl ho hk => row_chg (h.row a b kl ho hk) hc (fun k e s => ?_), dom := h.dom, rap := h.rap, full := h.full, ok := h.ok, msg := fun m hm => row_chg (h.msg m hm) hc (fun k e s => ?_), len := h.len, ap := h.ap }
  · obtain ⟨⟨c, t, fz, e, h1, h2⟩, _⟩ := hs B _ s h.net.box
    cases e; exact h1 rfl
  · obtain ⟨⟨c, t, fz, e, h1, h2⟩, _⟩ := hs M _ s hM
    cases e
  · obtain ⟨c, hc⟩ := row_type (h.row a b kl ho hk) e
    obtain ⟨⟨c, t, fz, e, h1, h2⟩, _⟩ := hs k _ s hc
    cases e; exact h2 rfl
  · obtain ⟨c, hc⟩ := row_type (h.msg m hm) e
    exact (hs k _ s hc).2 m hm e
theorem PH.below {N B M : Nat} {nodes most : Int} {f : Lit → Option Value} {n : Nat} {ps : List Ml} {w w' : World} (h : PH N B M nodes most f n ps w) (hb : Below w.heap.size w w') : PH N B M nodes most f n ps w' :=
  h.chg (S := fun _ => False) (Chg.of_below hb) (fun _ _ s => s.elim)

def mcell (m : Ml) : List Value := [.int .i64 m.f, .int .i64 m.t, m.v]
def mcells (l : List Ml) : List Value := l.flatMap mcell
theorem mcells_cons (t : Ml) (L : List Ml) : mcells (t :: L) = mcell t ++ mcells L := by simp [mcells]
theorem mcells_append (A B : List Ml) : mcells (A ++ B) = mcells A ++ mcells B := by simp [mcells]
theorem mcells_length (L : List Ml) : (mcells L).length = L.length * 3 := by
  induction L with
  | nil => rfl
  | cons t L ih => rw [mcells_cons, List.length_append, ih, List.length_cons]; simp [mcell]; omega
theorem mcells_get : ∀ (L : List Ml) (i : Nat) (m : Ml), L[i]? = some m → (mcells L)[i * 3]? = some (.int .i64 m.f) ∧ (mcells L)[i * 3 + 1]? = some (.int .i64 m.t) ∧ (mcells L)[i * 3 + 2]? = some m.v
  | [], i, m, h => by simp at h
  | t :: L, 0, m, h => by simp at h; subst h; simp [mcells_cons, mcell]
  | t :: L, i + 1, m, h => by
    have := mcells_get L i m (by simpa using h)
    have e1 : (i + 1) * 3 = 3 + i * 3 := by omega
    have e2 : (i + 1) * 3 + 1 = 3 + (i * 3 + 1) := by omega
    have e3 : (i + 1) * 3 + 2 = 3 + (i * 3 + 2) := by omega
    have h : ∀ k, (mcell t ++ mcells L)[3 + k]? = (mcells L)[k]? := fun k => by
      rw [List.getElem?_append_right (by simp [mcell])]
      congr 1
      simp [mcell]
    rw [mcells_cons, e1, Nat.add_assoc, Nat.add_assoc, h, h, h]
    exact this

/-- The document's line. -/
structure RH (N C : Nat) (nodes most : Int) (va : Value) (rs : List Ml) (w : World) : Prop where
  hC : N ≤ C
  box : w.heap[C]? = some (.cells #[.int .i64 nodes, .int .i64 most, va] 77 (0, 0))
  row : w.ownsRow N 82 3 va rs.length (mcells rs)
  msg : ∀ m ∈ rs, w.ownsRow N 5 1 m.v (by8 m.L).length (by8 m.L)
theorem RH.lt {N C : Nat} {nodes most : Int} {va : Value} {rs : List Ml} {w : World} (h : RH N C nodes most va rs w) : C < w.heap.size := (Array.getElem?_eq_some_iff.1 h.box).1
theorem RH.chg {N C : Nat} {nodes most : Int} {va : Value} {rs : List Ml} {w w' : World} {S : Nat → Prop} (h : RH N C nodes most va rs w) (hc : Chg S w w')
    (hs : ∀ k o, S k → w.heap[k]? = some o → (∀ c t fz, o = .cells c t fz → t ≠ 77 ∧ t ≠ 82) ∧ ∀ m ∈ rs, m.v.ownBlock ≠ some k) : RH N C nodes most va rs w' := by
  refine { hC := h.hC, box := (hc.block C h.lt fun s => ?_).trans h.box, row := row_chg h.row hc (fun k e s => ?_), msg := fun m hm => row_chg (h.msg m hm) hc (fun k e s => ?_) }
  · exact ((hs C _ s h.box).1 _ _ _ rfl).1 rfl
  · obtain ⟨c, hc⟩ := row_type h.row e
    exact ((hs k _ s hc).1 _ _ _ rfl).2 rfl
  · obtain ⟨c, hc⟩ := row_type (h.msg m hm) e
    exact (hs k _ s hc).2 m hm e
theorem RH.below {N C : Nat} {nodes most : Int} {va : Value} {rs : List Ml} {w w' : World} (h : RH N C nodes most va rs w) (hb : Below w.heap.size w w') : RH N C nodes most va rs w' :=
  h.chg (S := fun _ => False) (Chg.of_below hb) (fun _ _ s => s.elim)
theorem RH.slice {N C : Nat} {nodes most : Int} {va : Value} {rs : List Ml} {w : World} (h : RH N C nodes most va rs w) :
    ∃ oa cap, va = .slice oa rs.length cap ∧ ∀ i m, rs[i]? = some m → ∃ g, oa = some ⟨g, 0, none⟩ ∧ w.cell? ⟨g, i * 3, none⟩ = some (.int .i64 m.f) ∧ w.cell? ⟨g, i * 3 + 1, none⟩ = some (.int .i64 m.t) ∧ w.cell? ⟨g, i * 3 + 2, none⟩ = some m.v := by
  rcases ownsRow_forms h.row with ⟨rfl, h0⟩ | ⟨g, cap, rfl⟩
  · exact ⟨none, 0, by rw [h0], fun i m hm => absurd (List.getElem?_eq_some_iff.1 hm).1 (by omega)⟩
  · refine ⟨some ⟨g, 0, none⟩, cap, rfl, fun i m hm => ⟨g, rfl, ?_⟩⟩
    obtain ⟨h1, h2, h3⟩ := mcells_get rs i m hm
    have hi := (List.getElem?_eq_some_iff.1 hm).1
    have c := h.row.cellAt
    refine ⟨?_, ?_, ?_⟩
    · rw [c (i * 3) (by omega)]; exact h1
    · rw [c (i * 3 + 1) (by omega)]; exact h2
    · rw [c (i * 3 + 2) (by omega)]; exact h3
theorem RH.c0 {N C : Nat} {nodes most : Int} {va : Value} {rs : List Ml} {w : World} (h : RH N C nodes most va rs w) : w.cell? ⟨C, 0, none⟩ = some (.int .i64 nodes) := by simp [World.cell?, h.box]
theorem RH.c1 {N C : Nat} {nodes most : Int} {va : Value} {rs : List Ml} {w : World} (h : RH N C nodes most va rs w) : w.cell? ⟨C, 1, none⟩ = some (.int .i64 most) := by simp [World.cell?, h.box]
theorem RH.c2 {N C : Nat} {nodes most : Int} {va : Value} {rs : List Ml} {w : World} (h : RH N C nodes most va rs w) : w.cell? ⟨C, 2, none⟩ = some va := by simp [World.cell?, h.box]
theorem RH.fz {N C : Nat} {nodes most : Int} {va : Value} {rs : List Ml} {w : World} (h : RH N C nodes most va rs w) (o : Nat) : w.frozen? ⟨C, o, none⟩ = false := by simp [World.frozen?, h.box]

/-- No message of the one shares its block with one of the other. -/
def Apart (ps rs : List Ml) : Prop := ∀ m ∈ ps, ∀ r ∈ rs, ∀ k, m.v.ownBlock = some k → r.v.ownBlock ≠ some k
/-- Both lines. -/
structure LS (w0 : World) (N B M C : Nat) (nodes most : Int) (K : Nat) (f : Lit → Option Value) (n : Nat) (va : Value) (ps rs : List Ml) (w : World) : Prop where
  hn : n ≤ K
  p : PH N B M nodes most f n ps w
  r : RH N C nodes most va rs w
  ap : Apart ps rs
  bel : Below w0.heap.size w0 w
  hN : w0.heap.size ≤ N
theorem LS.below {w0 : World} {N B M C : Nat} {nodes most : Int} {K : Nat} {f : Lit → Option Value} {n : Nat} {va : Value} {ps rs : List Ml} {w w' : World} (h : LS w0 N B M C nodes most K f n va ps rs w) (hb : Below w.heap.size w w') : LS w0 N B M C nodes most K f n va ps rs w' :=
  ⟨h.hn, h.p.below hb, h.r.below hb, h.ap, h.bel.trans (hb.mono h.bel.size), h.hN⟩
theorem LS.mono {w0 : World} {N B M C : Nat} {nodes most : Int} {K K' : Nat} {f : Lit → Option Value} {n : Nat} {va : Value} {ps rs : List Ml} {w : World} (h : LS w0 N B M C nodes most K f n va ps rs w) (hk : K ≤ K') : LS w0 N B M C nodes most K' f n va ps rs w :=
  ⟨Nat.le_trans h.hn hk, h.p, h.r, h.ap, h.bel, h.hN⟩
/-- A change to a block that is of neither line. -/
theorem LS.chg {w0 : World} {N B M C : Nat} {nodes most : Int} {K : Nat} {f : Lit → Option Value} {n : Nat} {va : Value} {ps rs : List Ml} {w w' : World} {S : Nat → Prop} (h : LS w0 N B M C nodes most K f n va ps rs w) (hc : Chg S w w')
    (hs : ∀ k o, S k → w.heap[k]? = some o → ∃ c fz, o = .cells c 5 fz) (hp : ∀ k, S k → (∀ m ∈ ps, m.v.ownBlock ≠ some k) ∧ ∀ m ∈ rs, m.v.ownBlock ≠ some k) (h0 : ∀ k, S k → w0.heap.size ≤ k) : LS w0 N B M C nodes most K f n va ps rs w' := by
  refine ⟨h.hn, h.p.chg hc (fun k o s ho => ?_), h.r.chg hc (fun k o s ho => ?_), h.ap, h.bel.trans (hc.below h.bel.size h0), h.hN⟩
  · obtain ⟨c, fz, rfl⟩ := hs k o s ho
    exact ⟨⟨c, 5, fz, rfl, by decide, by decide⟩, (hp k s).1⟩
  · obtain ⟨c, fz, rfl⟩ := hs k o s ho
    exact ⟨fun c t fz e => by cases e; exact ⟨by decide, by decide⟩, (hp k s).2⟩

/-- The blocks that lie as they lay: all but those of these types, and maps. -/
def notT (ts : List Nat) (o : Obj) : Prop := ∃ c t fz, o = .cells c t fz ∧ t ∉ ts
theorem Keeps.weak {S T : Obj → Prop} {w w' : World} (h : Keeps S w w') (hst : ∀ o, T o → S o) : Keeps T w w' := fun k o ht ho => h k o (hst o ht) ho
theorem notT_weak {ts us : List Nat} (h : ∀ t, t ∈ ts → t ∈ us) (o : Obj) (ho : notT us o) : notT ts o := by
  obtain ⟨c, t, fz, e, hn⟩ := ho
  exact ⟨c, t, fz, e, fun hm => hn (h t hm)⟩
theorem Keeps.obj {ts : List Nat} {w w' : World} (h : Keeps (notT ts) w w') {k : Nat} {c : Array Value} {t : TypeId} {fz : Nat × Nat} (ht : t ∉ ts) (ho : w.heap[k]? = some (.cells c t fz)) : w'.heap[k]? = some (.cells c t fz) := h k _ ⟨c, t, fz, rfl, ht⟩ ho

/-- The program's mails and the document's are alike. -/
theorem PH.push {N B M : Nat} {nodes most : Int} {f : Lit → Option Value} {n : Nat} {ps : List Ml} {w w' : World} {a b : Int} {kl : Lit} {L : List Int} {e : Ending} (h : PH N B M nodes most f n ps w) (ho : OkW nodes a b) (hk : keyOf Try.prog 92 (wv a b) = some kl)
    (hlt : ((usOf ps a b).length : Int) < most) (hL : L.length ≤ 300) (hp : LayPost N B M nodes most f n kl (usOf ps a b) (by8 L) w e w') :
    ∃ f' u, PH N B M nodes most f' (n + 1) (ps ++ [⟨a, b, L, u⟩]) w' ∧ (∀ k, u.ownBlock = some k → w.heap.size ≤ k) ∧ Chg (fun k => some k = blk f kl ∨ k = M) w w' := by
  obtain ⟨-, v', u, net', row', msg', fr', ch', at'⟩ := hp
  have keeps := lay_keeps h.net (h.row a b kl ho hk) ch'
  have hnM : ∀ {k : Nat} {c : Array Value} {t : TypeId} {fz : Nat × Nat}, w.heap[k]? = some (.cells c t fz) → k ≠ M := fun hc e => by
    obtain ⟨es, cl, hM⟩ := rows_isMap h.net.map
    rw [e, hM] at hc; cases hc
  refine ⟨lupd f kl (some v'), u, { net := net', row := fun a' b' kl' ho' hk' => ?_, dom := fun kl' v hv => ?_, rap := fun k1 k2 k hne e1 e2 => ?_, full := fun a' b' => ?_, ok := fun m hm => ?_, msg := fun m hm => ?_, len := fun m hm => ?_, ap := ?_ }, fr', ch'⟩
  · by_cases e : a' = a ∧ b' = b
    · obtain ⟨rfl, rfl⟩ := e
      rw [hk] at hk'; cases hk'
      rw [lupd_same]
      have : usOf (ps ++ [⟨a', b', L, u⟩]) a' b' = usOf ps a' b' ++ [u] := by simp [usOf, wayM]
      rw [this]; exact row'
    · have hne := key_ne hk' hk e
      rw [lupd_other _ _ hne]
      have : usOf (ps ++ [⟨a, b, L, u⟩]) a' b' = usOf ps a' b' := by
        have : wayM a' b' ⟨a, b, L, u⟩ = false := by
          rw [← Bool.not_eq_true, wayM_iff]; intro hh; exact e ⟨hh.1.symm, hh.2.symm⟩
        simp [usOf, List.filter_append, this]
      rw [this]
      refine row_chg (h.row a' b' kl' ho' hk') ch' (fun k e s => ?_)
      rcases s with s | s
      · exact h.rap kl kl' k (fun e => hne e.symm) s.symm e
      · obtain ⟨c, hc⟩ := row_type (h.row a' b' kl' ho' hk') e
        exact hnM hc s
  · by_cases e : kl' = kl
    · subst e; exact ⟨a, b, ho, hk⟩
    · rw [lupd_other _ _ e] at hv; exact h.dom kl' v hv
  · have old : ∀ kx j, kx ≠ kl → blk (lupd f kl (some v')) kx = some j → blk f kx = some j ∧ j < w.heap.size := fun kx j hx ej => by
      unfold blk at ej ⊢
      rw [lupd_other _ _ hx] at ej
      refine ⟨ej, ?_⟩
      cases hf : f kx with
      | none => rw [hf] at ej; simp [Value.ownBlock] at ej
      | some v =>
        obtain ⟨a2, b2, ho2, hk2⟩ := h.dom kx v hf
        exact ((h.row a2 b2 kx ho2 hk2).lt j ej).2
    have new : ∀ j, blk (lupd f kl (some v')) kl = some j → blk f kl = some j ∨ w.heap.size ≤ j := fun j ej => by
      unfold blk at ej ⊢
      rw [lupd_same] at ej
      rcases at' with at' | ⟨q, e, hq⟩
      · left; rw [← at']; exact ej
      · right
        have : some q = some j := e.symm.trans ej
        cases this; exact hq
    by_cases h1 : k1 = kl
    · have h2 : k2 ≠ kl := fun e => hne (h1.trans e.symm)
      subst h1
      obtain ⟨o2, l2⟩ := old k2 k h2 e2
      rcases new k e1 with n1 | n1
      · exact h.rap _ _ k hne n1 o2
      · omega
    · obtain ⟨o1, l1⟩ := old k1 k h1 e1
      by_cases h2 : k2 = kl
      · subst h2
        rcases new k e2 with n2 | n2
        · exact h.rap _ _ k hne o1 n2
        · omega
      · obtain ⟨o2, l2⟩ := old k2 k h2 e2
        exact h.rap _ _ k hne o1 o2
  · by_cases e : a' = a ∧ b' = b
    · obtain ⟨rfl, rfl⟩ := e
      have : usOf (ps ++ [⟨a', b', L, u⟩]) a' b' = usOf ps a' b' ++ [u] := by simp [usOf, wayM]
      rw [this, List.length_append]; simp; omega
    · have : usOf (ps ++ [⟨a, b, L, u⟩]) a' b' = usOf ps a' b' := by
        have : wayM a' b' ⟨a, b, L, u⟩ = false := by
          rw [← Bool.not_eq_true, wayM_iff]; intro hh; exact e ⟨hh.1.symm, hh.2.symm⟩
        simp [usOf, List.filter_append, this]
      rw [this]; exact h.full a' b'
  · rcases List.mem_append.1 hm with hm | hm
    · exact h.ok m hm
    · obtain rfl := List.mem_singleton.1 hm; exact ho
  · rcases List.mem_append.1 hm with hm | hm
    · exact msg_keeps (h.msg m hm) keeps
    · obtain rfl := List.mem_singleton.1 hm; exact msg'
  · rcases List.mem_append.1 hm with hm | hm
    · exact h.len m hm
    · obtain rfl := List.mem_singleton.1 hm; exact hL
  · refine List.pairwise_append.2 ⟨h.ap, List.pairwise_singleton _ _, fun x hx y hy k e1 e2 => ?_⟩
    obtain rfl := List.mem_singleton.1 hy
    have := ((h.msg x hx).lt k e1).2
    have := fr' k e2
    omega
theorem PH.take {N B M : Nat} {nodes most : Int} {f : Lit → Option Value} {n : Nat} {ps : List Ml} {w w' : World} {a b : Int} {kl : Lit} {i k : Nat} {u : Value} {e : Ending} (h : PH N B M nodes most f n ps w) (ho : OkW nodes a b) (hk : keyOf Try.prog 92 (wv a b) = some kl)
    (hpos : pos (wayM a b) ps i = some k) (hp : TakePost N B M nodes most f n kl (usOf ps a b) i u w e w') :
    ∃ f' n', n' ≤ n + 1 ∧ PH N B M nodes most f' n' (ps.eraseIdx k) w' ∧ Chg (fun k => k = M) w w' := by
  obtain ⟨-, v', n', hn', net', row', fr', ch'⟩ := hp
  have keeps := take_keeps h.net ch'
  obtain ⟨x, hx, hxw, -⟩ := pos_some hpos
  have hnM : ∀ {k : Nat} {c : Array Value} {t : TypeId} {fz : Nat × Nat}, w.heap[k]? = some (.cells c t fz) → k ≠ M := fun hc e => by
    obtain ⟨es, cl, hM⟩ := rows_isMap h.net.map
    rw [e, hM] at hc; cases hc
  have hus : ∀ a' b', ¬ (a' = a ∧ b' = b) → usOf (ps.eraseIdx k) a' b' = usOf ps a' b' := fun a' b' e => by
    have hq : wayM a' b' x = false := by
      rw [← Bool.not_eq_true, wayM_iff]; intro hh
      have := wayM_iff.1 hxw
      exact e ⟨hh.1.symm.trans this.1, hh.2.symm.trans this.2⟩
    simp only [usOf, filter_erase_other hx hq]
  have hus1 : usOf (ps.eraseIdx k) a b = (usOf ps a b).eraseIdx i := by rw [usOf, filter_erase hpos, usOf, erase_map]
  refine ⟨lupd f kl v', n', hn', { net := net', row := fun a' b' kl' ho' hk' => ?_, dom := fun kl' v hv => ?_, rap := fun k1 k2 k hne e1 e2 => ?_, full := fun a' b' => ?_, ok := fun m hm => h.ok m (mem_erase_of hm), msg := fun m hm => msg_keeps (h.msg m (mem_erase_of hm)) keeps, len := fun m hm => h.len m (mem_erase_of hm), ap := h.ap.sublist (List.eraseIdx_sublist ps k) }, ch'⟩
  · by_cases e : a' = a ∧ b' = b
    · obtain ⟨rfl, rfl⟩ := e
      rw [hk] at hk'; cases hk'
      rw [lupd_same, hus1]; exact row'
    · have hne := key_ne hk' hk e
      rw [lupd_other _ _ hne, hus a' b' e]
      refine row_chg (h.row a' b' kl' ho' hk') ch' (fun k e s => ?_)
      obtain ⟨c, hc⟩ := row_type (h.row a' b' kl' ho' hk') e
      exact hnM hc s
  · by_cases e : kl' = kl
    · subst e; exact ⟨a, b, ho, hk⟩
    · rw [lupd_other _ _ e] at hv; exact h.dom kl' v hv
  · have old : ∀ kx j, kx ≠ kl → blk (lupd f kl v') kx = some j → blk f kx = some j ∧ j < w.heap.size := fun kx j hx ej => by
      unfold blk at ej ⊢
      rw [lupd_other _ _ hx] at ej
      refine ⟨ej, ?_⟩
      cases hf : f kx with
      | none => rw [hf] at ej; simp [Value.ownBlock] at ej
      | some v =>
        obtain ⟨a2, b2, ho2, hk2⟩ := h.dom kx v hf
        exact ((h.row a2 b2 kx ho2 hk2).lt j ej).2
    have new : ∀ j, blk (lupd f kl v') kl = some j → w.heap.size ≤ j := fun j ej => by
      unfold blk at ej
      rw [lupd_same] at ej
      exact fr' j ej
    by_cases h1 : k1 = kl
    · have h2 : k2 ≠ kl := fun e => hne (h1.trans e.symm)
      subst h1
      obtain ⟨o2, l2⟩ := old k2 k h2 e2
      have := new k e1
      omega
    · obtain ⟨o1, l1⟩ := old k1 k h1 e1
      by_cases h2 : k2 = kl
      · subst h2
        have := new k e2
        omega
      · obtain ⟨o2, l2⟩ := old k2 k h2 e2
        exact h.rap _ _ k hne o1 o2
  · by_cases e : a' = a ∧ b' = b
    · obtain ⟨rfl, rfl⟩ := e
      rw [hus1]
      have := h.full a' b'
      have h2 := List.length_eraseIdx_le (usOf ps a' b') i
      omega
    · rw [hus a' b' e]; exact h.full a' b'
theorem PH.flip {N B M : Nat} {nodes most : Int} {f : Lit → Option Value} {n : Nat} {ps : List Ml} {w w' : World} {a b : Int} {i k : Nat} {m : Ml} {L' : List Int} (h : PH N B M nodes most f n ps w) 
    (hpos : pos (wayM a b) ps i = some k) (hm : ps[k]? = some m) (hL : L'.length = m.L.length) (hrow : w'.ownsRow N 5 1 m.v (by8 L').length (by8 L')) (hc : Chg (fun j => some j = m.v.ownBlock) w w') :
    PH N B M nodes most f n (ps.set k ⟨a, b, L', m.v⟩) w' := by
  obtain ⟨x, hx, hxw, hxi⟩ := pos_some hpos
  rw [hm] at hx; cases hx
  have hmw := wayM_iff.1 hxw
  have hmem : m ∈ ps := List.mem_of_getElem? hm
  obtain ⟨es, cl, hM⟩ := rows_isMap h.net.map
  have htype : ∀ j, some j = m.v.ownBlock → ∃ c, w.heap[j]? = some (.cells c 5 (0, 0)) := fun j e => row_type (h.msg m hmem) e.symm
  have hus : ∀ a' b', usOf (ps.set k ⟨a, b, L', m.v⟩) a' b' = usOf ps a' b' := fun a' b' => by
    by_cases e : a' = a ∧ b' = b
    · obtain ⟨rfl, rfl⟩ := e
      have hw : wayM a' b' ⟨a', b', L', m.v⟩ = true := wayM_iff.2 ⟨rfl, rfl⟩
      simp only [usOf, filter_set hw hpos, List.map_set]
      refine List.ext_getElem? (fun j => ?_)
      rw [List.getElem?_set]
      split
      · rename_i e
        subst e
        rw [List.getElem?_map, hxi]
        have := (List.getElem?_eq_some_iff.1 hxi).1
        simp [this]
      · rfl
    · have h1 : wayM a' b' m = false := by
        rw [← Bool.not_eq_true, wayM_iff]; intro hh; exact e ⟨hh.1.symm.trans hmw.1, hh.2.symm.trans hmw.2⟩
      have h2 : wayM a' b' ⟨a, b, L', m.v⟩ = false := by
        rw [← Bool.not_eq_true, wayM_iff]; intro hh; exact e ⟨hh.1.symm, hh.2.symm⟩
      simp only [usOf, filter_set_other h2 hm h1]
  have hap := List.pairwise_iff_getElem.1 h.ap
  have hkl := (List.getElem?_eq_some_iff.1 hm).1
  have hkm := (List.getElem?_eq_some_iff.1 hm).2
  refine { net := h.net.same (hc.block B h.net.lt fun s => ?_) (hc.block M (rows_lt h.net.map) fun s => ?_), row := fun a' b' kl' ho' hk' => ?_, dom := h.dom, rap := h.rap, full := fun a' b' => by rw [hus]; exact h.full a' b', ok := fun m' hm' => ?_, msg := fun m' hm' => ?_, len := fun m' hm' => ?_, ap := ?_ }
  · obtain ⟨c, hc⟩ := htype B s
    rw [h.net.box] at hc; simp at hc
  · obtain ⟨c, hc⟩ := htype M s
    rw [hM] at hc; cases hc
  · rw [hus]
    refine row_chg (h.row a' b' kl' ho' hk') hc (fun j e s => ?_)
    obtain ⟨c, h1⟩ := row_type (h.row a' b' kl' ho' hk') e
    obtain ⟨c', h2⟩ := htype j s
    rw [h1] at h2; simp at h2
  · rcases mem_set_of hm' with hm' | rfl
    · exact h.ok m' hm'
    · have := h.ok m hmem; rw [hmw.1, hmw.2] at this; exact this
  · obtain ⟨j, hj, e⟩ := List.getElem_of_mem hm'
    rw [List.getElem_set] at e
    split at e
    · subst e; exact hrow
    · rename_i hjk
      have hj' : j < ps.length := by simpa using hj
      have hm2 : m' ∈ ps := by rw [← e]; exact List.getElem_mem hj'
      refine row_chg (h.msg m' hm2) hc (fun q e1 e2 => ?_)
      rcases Nat.lt_or_ge k j with hlt | hge
      · exact hap k j hkl hj' hlt q (by rw [hkm]; exact e2.symm) (by rw [e]; exact e1)
      · exact hap j k hj' hkl (by omega) q (by rw [e]; exact e1) (by rw [hkm]; exact e2.symm)
  · rcases mem_set_of hm' with hm' | rfl
    · exact h.len m' hm'
    · have := h.len m hmem
      show L'.length ≤ 300
      omega
  · refine List.pairwise_iff_getElem.2 (fun p q hp hq hpq j e1 e2 => ?_)
    have hp' : p < ps.length := by simpa using hp
    have hq' : q < ps.length := by simpa using hq
    have key : ∀ z (hz : z < (ps.set k ⟨a, b, L', m.v⟩).length) (hz' : z < ps.length), ((ps.set k ⟨a, b, L', m.v⟩)[z]).v = (ps[z]).v := fun z hz hz' => by
      rw [List.getElem_set]
      split
      · rename_i e; subst e; rw [hkm]
      · rfl
    rw [key p hp hp'] at e1
    rw [key q hq hq'] at e2
    exact hap p q hp' hq' hpq j e1 e2
end Go.Proofs.Ytklkhlipecphkaa
