/- Link: the list of what waits, plain. -/
import Derived.Test.YtklkhlipecphkaaLm
namespace Go.Proofs.Ytklkhlipecphkaa
set_option linter.unusedVariables false

/-- Where the i-th of those that P takes stands. -/
def pos {α : Type} (P : α → Bool) : List α → Nat → Option Nat
  | [], _ => none
  | x :: l, i => if P x = true then (match i with | 0 => some 0 | i + 1 => (pos P l i).map (· + 1)) else (pos P l i).map (· + 1)
theorem pos_nil {α : Type} (P : α → Bool) (i : Nat) : pos P [] i = none := rfl
theorem pos_zero {α : Type} {P : α → Bool} {x : α} (l : List α) (h : P x = true) : pos P (x :: l) 0 = some 0 := by simp [pos, h]
theorem pos_succ {α : Type} {P : α → Bool} {x : α} (l : List α) (i : Nat) (h : P x = true) : pos P (x :: l) (i + 1) = (pos P l i).map (· + 1) := by simp [pos, h]
theorem pos_skip {α : Type} {P : α → Bool} {x : α} (l : List α) (i : Nat) (h : P x = false) : pos P (x :: l) i = (pos P l i).map (· + 1) := by simp [pos, h]
theorem pos_some {α : Type} {P : α → Bool} : ∀ {l : List α} {i k : Nat}, pos P l i = some k → ∃ x, l[k]? = some x ∧ P x = true ∧ (l.filter P)[i]? = some x
  | [], i, k, h => by simp [pos] at h
  | x :: l, i, k, h => by
    by_cases hx : P x = true
    · cases i with
      | zero =>
        rw [pos_zero l hx] at h
        cases h
        exact ⟨x, rfl, hx, by simp [hx]⟩
      | succ i =>
        rw [pos_succ l i hx] at h
        obtain ⟨k', h', rfl⟩ := Option.map_eq_some_iff.1 h
        obtain ⟨y, h1, h2, h3⟩ := pos_some h'
        exact ⟨y, by simpa using h1, h2, by simpa [hx] using h3⟩
    · have hx : P x = false := by simpa using hx
      rw [pos_skip l i hx] at h
      obtain ⟨k', h', rfl⟩ := Option.map_eq_some_iff.1 h
      obtain ⟨y, h1, h2, h3⟩ := pos_some h'
      exact ⟨y, by simpa using h1, h2, by simpa [hx] using h3⟩
theorem pos_none {α : Type} {P : α → Bool} : ∀ {l : List α} {i : Nat}, pos P l i = none → (l.filter P).length ≤ i
  | [], i, h => by simp
  | x :: l, i, h => by
    by_cases hx : P x = true
    · cases i with
      | zero => rw [pos_zero l hx] at h; cases h
      | succ i =>
        rw [pos_succ l i hx] at h
        have := pos_none (Option.map_eq_none_iff.1 h)
        simp [hx]; exact this
    · have hx : P x = false := by simpa using hx
      rw [pos_skip l i hx] at h
      have := pos_none (Option.map_eq_none_iff.1 h)
      simpa [hx] using this
theorem pos_lt {α : Type} {P : α → Bool} {l : List α} {i : Nat} (h : i < (l.filter P).length) : ∃ k, pos P l i = some k := by
  cases e : pos P l i with
  | none => have := pos_none e; omega
  | some k => exact ⟨k, rfl⟩
theorem pos_ilt {α : Type} {P : α → Bool} {l : List α} {i k : Nat} (h : pos P l i = some k) : i < (l.filter P).length := by
  obtain ⟨x, _, _, h3⟩ := pos_some h
  exact (List.getElem?_eq_some_iff.1 h3).1
theorem pos_klt {α : Type} {P : α → Bool} {l : List α} {i k : Nat} (h : pos P l i = some k) : k < l.length := by
  obtain ⟨x, h3, _⟩ := pos_some h
  exact (List.getElem?_eq_some_iff.1 h3).1
theorem pos_map {α β : Type} (g : α → β) (P : β → Bool) : ∀ (l : List α) (i : Nat), pos P (l.map g) i = pos (fun x => P (g x)) l i
  | [], i => rfl
  | x :: l, i => by
    rw [List.map_cons]
    by_cases hx : P (g x) = true
    · cases i with
      | zero => rw [pos_zero _ hx, pos_zero (P := fun x => P (g x)) _ hx]
      | succ i => rw [pos_succ _ _ hx, pos_succ (P := fun x => P (g x)) _ _ hx, pos_map g P l i]
    · have hx : P (g x) = false := by simpa using hx
      rw [pos_skip _ _ hx, pos_skip (P := fun x => P (g x)) _ _ hx, pos_map g P l i]
theorem filter_erase {α : Type} {P : α → Bool} : ∀ {l : List α} {i k : Nat}, pos P l i = some k → (l.eraseIdx k).filter P = (l.filter P).eraseIdx i
  | [], i, k, h => by simp [pos] at h
  | x :: l, i, k, h => by
    by_cases hx : P x = true
    · cases i with
      | zero => rw [pos_zero l hx] at h; cases h; simp [hx]
      | succ i =>
        rw [pos_succ l i hx] at h
        obtain ⟨k', h', rfl⟩ := Option.map_eq_some_iff.1 h
        simp [hx, filter_erase h']
    · have hx : P x = false := by simpa using hx
      rw [pos_skip l i hx] at h
      obtain ⟨k', h', rfl⟩ := Option.map_eq_some_iff.1 h
      simp [hx, filter_erase h']
theorem filter_set {α : Type} {P : α → Bool} {y : α} (hy : P y = true) : ∀ {l : List α} {i k : Nat}, pos P l i = some k → (l.set k y).filter P = (l.filter P).set i y
  | [], i, k, h => by simp [pos] at h
  | x :: l, i, k, h => by
    by_cases hx : P x = true
    · cases i with
      | zero => rw [pos_zero l hx] at h; cases h; simp [hx, hy]
      | succ i =>
        rw [pos_succ l i hx] at h
        obtain ⟨k', h', rfl⟩ := Option.map_eq_some_iff.1 h
        simp [hx, filter_set hy h']
    · have hx : P x = false := by simpa using hx
      rw [pos_skip l i hx] at h
      obtain ⟨k', h', rfl⟩ := Option.map_eq_some_iff.1 h
      simp [hx, filter_set hy h']
theorem filter_erase_other {α : Type} {Q : α → Bool} : ∀ {l : List α} {k : Nat} {x : α}, l[k]? = some x → Q x = false → (l.eraseIdx k).filter Q = l.filter Q
  | [], k, x, h, _ => by simp at h
  | y :: l, 0, x, h, hq => by simp at h; subst h; simp [hq]
  | y :: l, k + 1, x, h, hq => by
    have := filter_erase_other (l := l) (k := k) (by simpa using h) hq
    by_cases hy : Q y = true
    · simp [hy, this]
    · simp [hy, this]
theorem filter_set_other {α : Type} {Q : α → Bool} {y : α} (hy : Q y = false) : ∀ {l : List α} {k : Nat} {x : α}, l[k]? = some x → Q x = false → (l.set k y).filter Q = l.filter Q
  | [], k, x, h, _ => by simp at h
  | z :: l, 0, x, h, hq => by simp at h; subst h; simp [hq, hy]
  | z :: l, k + 1, x, h, hq => by
    have := filter_set_other hy (l := l) (k := k) (by simpa using h) hq
    by_cases hz : Q z = true
    · simp [hz, this]
    · simp [hz, this]
theorem mem_erase_of {α : Type} {l : List α} {k : Nat} {x : α} (h : x ∈ l.eraseIdx k) : x ∈ l := List.mem_of_mem_eraseIdx h
theorem mem_set_of {α : Type} {l : List α} {k : Nat} {x y : α} (h : x ∈ l.set k y) : x ∈ l ∨ x = y := List.mem_or_eq_of_mem_set h

/-- A message that waits: from where, to where, its bytes, where it lies. -/
structure Ml where
  f : Int
  t : Int
  L : List Int
  v : Value
abbrev Ab := Int × Int × List Int
def Ml.ab (m : Ml) : Ab := (m.f, m.t, m.L)
def wayA (a b : Int) (m : Ab) : Bool := m.1 == a && m.2.1 == b
def wayM (a b : Int) (m : Ml) : Bool := m.f == a && m.t == b
theorem wayM_ab (a b : Int) (m : Ml) : wayA a b m.ab = wayM a b m := rfl
theorem wayA_iff {a b : Int} {m : Ab} : wayA a b m = true ↔ m.1 = a ∧ m.2.1 = b := by simp [wayA]
theorem wayM_iff {a b : Int} {m : Ml} : wayM a b m = true ↔ m.f = a ∧ m.t = b := by simp [wayM]
def abs (l : List Ml) : List Ab := l.map Ml.ab
theorem abs_filter (l : List Ml) (a b : Int) : (abs l).filter (wayA a b) = (l.filter (wayM a b)).map Ml.ab := by
  rw [abs, List.filter_map]; rfl
theorem abs_pos (l : List Ml) (a b : Int) (i : Nat) : pos (wayA a b) (abs l) i = pos (wayM a b) l i := by
  rw [abs, pos_map]; rfl
theorem abs_len (l : List Ml) : (abs l).length = l.length := List.length_map _
theorem abs_append (l : List Ml) (m : Ml) : abs (l ++ [m]) = abs l ++ [m.ab] := by simp [abs]
theorem erase_map {α β : Type} (g : α → β) : ∀ (l : List α) (k : Nat), (l.map g).eraseIdx k = (l.eraseIdx k).map g
  | [], k => rfl
  | x :: l, 0 => rfl
  | x :: l, k + 1 => by simp [erase_map g l k]
theorem abs_erase (l : List Ml) (k : Nat) : abs (l.eraseIdx k) = (abs l).eraseIdx k := by rw [abs, abs, erase_map]
theorem abs_set (l : List Ml) (k : Nat) (m : Ml) : abs (l.set k m) = (abs l).set k m.ab := by simp [abs, List.map_set]
theorem abs_get (l : List Ml) (k : Nat) : (abs l)[k]? = (l[k]?).map Ml.ab := by simp [abs]
def usOf (l : List Ml) (a b : Int) : List Value := (l.filter (wayM a b)).map Ml.v
theorem usOf_len (l : List Ml) (a b : Int) : (usOf l a b).length = ((abs l).filter (wayA a b)).length := by rw [abs_filter, usOf, List.length_map, List.length_map]

/-- A way between two nodes. -/
structure OkW (nodes a b : Int) : Prop where
  a0 : 0 ≤ a
  a1 : a < nodes
  b0 : 0 ≤ b
  b1 : b < nodes
  ne : a ≠ b
instance (nodes a b : Int) : Decidable (OkW nodes a b) := decidable_of_iff (0 ≤ a ∧ a < nodes ∧ 0 ≤ b ∧ b < nodes ∧ a ≠ b) ⟨fun ⟨h1, h2, h3, h4, h5⟩ => ⟨h1, h2, h3, h4, h5⟩, fun h => ⟨h.a0, h.a1, h.b0, h.b1, h.ne⟩⟩
/-- Where the i-th message of a way stands. -/
def posI (a b i : Int) (A : List Ab) : Option Nat := if i < 0 then none else pos (wayA a b) A i.toNat
def nw (A : List Ab) (a b : Int) : Nat := (A.filter (wayA a b)).length
def cAsk (nodes a b : Int) : Int := if OkW nodes a b then 0 else 190
def cName (nodes : Int) (A : List Ab) (a b i : Int) : Int := if OkW nodes a b then (if (posI a b i A).isSome then 0 else 191) else 190
def cSend (nodes most : Int) (A : List Ab) (a b : Int) : Int := if OkW nodes a b then (if most ≤ (nw A a b : Int) then 170 else 0) else 190
def aSend (nodes most : Int) (A : List Ab) (a b : Int) (L : List Int) : List Ab := if cSend nodes most A a b = 0 then A ++ [(a, b, L)] else A
def aTake (nodes : Int) (A : List Ab) (a b i : Int) : List Ab := if OkW nodes a b then (match posI a b i A with | some k => A.eraseIdx k | none => A) else A
def tTake (nodes : Int) (A : List Ab) (a b i : Int) : List Int := if OkW nodes a b then (match posI a b i A with | some k => ((A[k]?).getD (0, 0, [])).2.2 | none => []) else []
def cDbl (nodes most : Int) (A : List Ab) (a b i : Int) : Int := if cName nodes A a b i = 0 then cSend nodes most A a b else cName nodes A a b i
def aDbl (nodes most : Int) (A : List Ab) (a b i : Int) : List Ab := if cName nodes A a b i = 0 then aSend nodes most A a b (tTake nodes A a b i) else A
def bitOk (L : List Int) (bit : Int) : Prop := 0 ≤ bit ∧ bit < 8 * (L.length : Int)
instance (L : List Int) (bit : Int) : Decidable (bitOk L bit) := by unfold bitOk; infer_instance
def cFlip (nodes : Int) (A : List Ab) (a b i bit : Int) : Int := if cName nodes A a b i = 0 then (if bitOk (tTake nodes A a b i) bit then 0 else 2) else cName nodes A a b i
def aFlip (nodes : Int) (A : List Ab) (a b i bit : Int) : List Ab := if cFlip nodes A a b i bit = 0 then (match posI a b i A with | some k => A.set k (a, b, flip (tTake nodes A a b i) bit.toNat) | none => A) else A
def sumA (A : List Ab) : Int := ((A.map fun m => m.2.2.length).sum : Nat)
/-- The least node from which something waits. -/
def IsFrom (A : List Ab) (to x : Int) (ok : Bool) : Prop := (ok = false ∧ x = 0 ∧ ∀ m ∈ A, m.2.1 ≠ to) ∨ (ok = true ∧ (∃ m ∈ A, m.2.1 = to ∧ m.1 = x) ∧ ∀ m ∈ A, m.2.1 = to → x ≤ m.1)
theorem IsFrom.inj {A : List Ab} {to x y : Int} {p q : Bool} (h : IsFrom A to x p) (k : IsFrom A to y q) : x = y ∧ p = q := by
  rcases h with ⟨rfl, rfl, h⟩ | ⟨rfl, ⟨m, hm, h1, h2⟩, h⟩
  · rcases k with ⟨rfl, rfl, k⟩ | ⟨rfl, ⟨m, hm, k1, k2⟩, k⟩
    · exact ⟨rfl, rfl⟩
    · exact absurd k1 (h m hm)
  · rcases k with ⟨rfl, rfl, k⟩ | ⟨rfl, ⟨m', hm', k1, k2⟩, k⟩
    · exact absurd h1 (k m hm)
    · have a := h m' hm' k1
      have b := k m hm h1
      exact ⟨by omega, rfl⟩
end Go.Proofs.Ytklkhlipecphkaa
