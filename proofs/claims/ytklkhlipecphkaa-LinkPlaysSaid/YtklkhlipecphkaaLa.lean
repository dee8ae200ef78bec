/- Link: what a line is in memory. -/
import Derived.Test.YtklkhlipecphkaaRc
import Derived.DeepKeys4
namespace Go.Proofs.Ytklkhlipecphkaa
open Go.RowKit Go.Joins Go.Maps
set_option maxRecDepth 100000
set_option linter.unusedVariables false

theorem laidOutL : laidOutB Try.prog = true := by kernel_rfl
theorem lawW : Keyed Try.prog 92 := Keyed.of_law (deep_law_laid laidOutL (m := 2) (by omega) (of_decide_eq_true (by kernel_rfl)) (by kernel_rfl) (by kernel_rfl))
/-- An element of the map reads as itself. -/
def rdV (v : Value) : Option (DataW Value × List MemPlace) := some (.held v, [])
def wv (a b : Int) : Value := .agg #[.int .i64 a, .int .i64 b]
/-- The map of rows as a function of the key's reading. -/
def LView (D : DataW Value) (f : Lit → Option Value) : Prop := ∀ kl z, D.atKey kl (.held z) = .held ((f kl).getD z)
open Classical in
noncomputable def lupd (f : Lit → Option Value) (x : Lit) (p : Option Value) : Lit → Option Value := fun y => if y = x then p else f y
theorem lupd_same (f : Lit → Option Value) (x : Lit) (p : Option Value) : lupd f x p x = p := by simp [lupd]
theorem lupd_other (f : Lit → Option Value) {x y : Lit} (p : Option Value) (h : y ≠ x) : lupd f x p y = f y := by simp [lupd, h]
theorem lview_empty : LView (.map []) (fun _ => none) := fun _ _ => rfl
theorem LView.put {D : DataW Value} {f : Lit → Option Value} (h : LView D f) (hm : IsMap D) {x : Lit} (hk : WideAt.IsKeyLit x) (v : Value) : LView (D.put x (.held v)) (lupd f x (some v)) := fun y z => by
  by_cases e : y = x
  · subst e; rw [lupd_same, atKey_put_same hm hk]; rfl
  · rw [lupd_other f _ e, atKey_put_other e]; exact h y z
theorem LView.del {D : DataW Value} {f : Lit → Option Value} (h : LView D f) {x : Lit} : LView (D.del x) (lupd f x none) := fun y z => by
  by_cases e : y = x
  · subst e; rw [lupd_same, atKey_del_same]; rfl
  · rw [lupd_other f _ e, atKey_del_other e]; exact h y z

theorem zeroR (w : World) : (zeroValue 29).run Try.prog w = .ok (.slice none 0 0) w := by kernel_rfl
def World.rows (w : World) (b n : Nat) (f : Lit → Option Value) : Prop := ∃ D, w.ownsMap Try.prog 92 rdV b n D ∧ LView D f
theorem rows_made (w : World) : World.rows (w.alloc (.map #[] 0)) w.heap.size 0 (fun _ => none) := ⟨_, World.ownsMap_made _ _ _ _, lview_empty⟩
theorem rows_look {w : World} {b n : Nat} {f : Lit → Option Value} (h : World.rows w b n f) {key : Value} {kl : Lit} (hk : keyOf Try.prog 92 key = some kl) :
    (Instr.lookup 86 (.map (some b)) key false).run Try.prog w = .ok ((f kl).getD (.slice none 0 0)) w := by
  obtain ⟨D, hown, hv⟩ := h
  obtain ⟨v, ps, hrun, hR⟩ := hown.lookup lawW Try.underlying86 (zeroR w) (zd := .held (.slice none 0 0)) (zp := []) rfl hk
  rw [hv kl] at hR
  simp only [rdV, Option.some.injEq, Prod.mk.injEq, DataW.held.injEq] at hR
  rw [← hR.1]
  exact hrun
theorem rows_put {w : World} {b n : Nat} {f : Lit → Option Value} (h : World.rows w b n f) (hn : n < maxLen) {key : Value} {kl : Lit} (hk : keyOf Try.prog 92 key = some kl) (v : Value) :
    ∃ w', (Instr.mapUpdate 86 (.map (some b)) key v).run Try.prog w = .ok () w' ∧ World.rows w' b (n + 1) (lupd f kl (some v)) ∧ w.grownBy w' (some b) := by
  obtain ⟨D, hown, hv⟩ := h
  obtain ⟨w', hrun, hown', hg⟩ := hown.update lawW Try.underlying86 hn hk (d := .held v) (ps := []) rfl
  exact ⟨w', hrun, ⟨_, hown', hv.put hown.isMap (lawW.key hk) v⟩, hg⟩
theorem rows_drop {w : World} {b n : Nat} {f : Lit → Option Value} (h : World.rows w b n f) {key : Value} {kl : Lit} (hk : keyOf Try.prog 92 key = some kl) (ty : TypeId) :
    ∃ w', (Builtin.delete_ #[86, 92] ty #[.map (some b), key]).run Try.prog w = .ok (.tuple #[]) w' ∧ World.rows w' b n (lupd f kl none) ∧ w.grownBy w' (some b) := by
  obtain ⟨D, hown, hv⟩ := h
  obtain ⟨w', hrun, hown', hg⟩ := hown.drop lawW Try.underlying86 hk ty
  exact ⟨w', hrun, ⟨_, hown', hv.del⟩, hg.grown⟩
theorem rows_kept {w w' : World} {b n : Nat} {f : Lit → Option Value} {row : Option Nat} (h : World.rows w b n f) (hg : w.grownBy w' row) (hne : some b ≠ row) : World.rows w' b n f := by
  obtain ⟨D, hown, hv⟩ := h
  exact ⟨D, hown.kept hg hne, hv⟩
theorem rows_lt {w : World} {b n : Nat} {f : Lit → Option Value} (h : World.rows w b n f) : b < w.heap.size := by
  obtain ⟨D, hown, hv⟩ := h
  exact hown.lt
theorem rows_isMap {w : World} {b n : Nat} {f : Lit → Option Value} (h : World.rows w b n f) : ∃ es cl, w.heap[b]? = some (.map es cl) := by
  obtain ⟨D, ⟨es, cl, hm, _⟩, hv⟩ := h
  exact ⟨es, cl, hm⟩
theorem key_some (a b : Int) (h : (keyOf Try.prog 92 (wv a b)).isSome = true) : ∃ kl, keyOf Try.prog 92 (wv a b) = some kl := Option.isSome_iff_exists.1 h
theorem k01 : (keyOf Try.prog 92 (wv 0 1)).isSome = true := by kernel_rfl
theorem k10 : (keyOf Try.prog 92 (wv 1 0)).isSome = true := by kernel_rfl

/-- A line in block B, its rows in the map M; both lie from block N on. -/
structure Net (N B M : Nat) (nodes most : Int) (f : Lit → Option Value) (n : Nat) (w : World) : Prop where
  hB : N ≤ B
  hM : N ≤ M
  ne : B ≠ M
  box : w.heap[B]? = some (.cells #[.int .i64 nodes, .int .i64 most, .map (some M)] 88 (0, 0))
  map : World.rows w M n f
theorem Net.c0 {N B M : Nat} {nodes most : Int} {f : Lit → Option Value} {n : Nat} {w : World} (h : Net N B M nodes most f n w) : w.cell? ⟨B, 0, none⟩ = some (.int .i64 nodes) := by simp [World.cell?, h.box]
theorem Net.c1 {N B M : Nat} {nodes most : Int} {f : Lit → Option Value} {n : Nat} {w : World} (h : Net N B M nodes most f n w) : w.cell? ⟨B, 1, none⟩ = some (.int .i64 most) := by simp [World.cell?, h.box]
theorem Net.c2 {N B M : Nat} {nodes most : Int} {f : Lit → Option Value} {n : Nat} {w : World} (h : Net N B M nodes most f n w) : w.cell? ⟨B, 2, none⟩ = some (.map (some M)) := by simp [World.cell?, h.box]
theorem Net.lt {N B M : Nat} {nodes most : Int} {f : Lit → Option Value} {n : Nat} {w : World} (h : Net N B M nodes most f n w) : B < w.heap.size := (Array.getElem?_eq_some_iff.1 h.box).1
theorem Net.kept {N B M : Nat} {nodes most : Int} {f : Lit → Option Value} {n : Nat} {w w' : World} {row : Option Nat} (h : Net N B M nodes most f n w) (hg : w.grownBy w' row) (h1 : some B ≠ row) (h2 : some M ≠ row) : Net N B M nodes most f n w' :=
  ⟨h.hB, h.hM, h.ne, (hg.block B h.lt h1).trans h.box, rows_kept h.map hg h2⟩
theorem Net.below {N B M : Nat} {nodes most : Int} {f : Lit → Option Value} {n : Nat} {w w' : World} (h : Net N B M nodes most f n w) (hb : Below w.heap.size w w') : Net N B M nodes most f n w' := h.kept (grown_of_below hb) (by simp) (by simp)
theorem Net.drew {N B M : Nat} {nodes most : Int} {f : Lit → Option Value} {n : Nat} {w : World} (h : Net N B M nodes most f n w) : Net N B M nodes most f n w.drew := ⟨h.hB, h.hM, h.ne, h.box, h.map⟩
theorem Net.mono {N N' B M : Nat} {nodes most : Int} {f : Lit → Option Value} {n : Nat} {w : World} (h : Net N B M nodes most f n w) (hn : N' ≤ N) : Net N' B M nodes most f n w := ⟨Nat.le_trans hn h.hB, Nat.le_trans hn h.hM, h.ne, h.box, h.map⟩
theorem Net.put {N B M : Nat} {nodes most : Int} {f f' : Lit → Option Value} {n n' : Nat} {w w' : World} (h : Net N B M nodes most f n w) (hg : w.grownBy w' (some M)) (hm : World.rows w' M n' f') : Net N B M nodes most f' n' w' :=
  ⟨h.hB, h.hM, h.ne, (hg.block B h.lt (by intro e; exact h.ne (by cases e; rfl))).trans h.box, hm⟩

theorem lis_yes {N B M : Nat} {nodes most : Int} {f : Lit → Option Value} {n : Nat} {w : World} (h : Net N B M nodes most f n w) (hb : 0 < nodes) :
    Calls Try.prog 50 #[.pointer (some ⟨B, 0, none⟩)] w fun e w' => e = .returned (.bool true) ∧ w' = w := by
  have c0 := h.c0
  have d1 : decide (0 < nodes) = true := decide_eq_true hb
  clear h
  go_enter Try.func50, Try.ntmps50
  go_wp2_with fail
  go_ret
  exact ⟨rfl, rfl⟩
theorem node_yes {N B M : Nat} {nodes most : Int} {f : Lit → Option Value} {n : Nat} {w : World} (h : Net N B M nodes most f n w) {a : Int} (h0 : 0 ≤ a) (h1 : a < nodes) :
    Calls Try.prog 60 #[.pointer (some ⟨B, 0, none⟩), .int .i64 a] w fun e w' => e = .returned (.bool true) ∧ w' = w := by
  have c0 := h.c0
  have d1 : decide (0 ≤ a) = true := decide_eq_true h0
  have d2 : decide (a < nodes) = true := decide_eq_true h1
  clear h
  go_enter Try.func60, Try.ntmps60
  go_wp2_with fail
  go_ret
  exact ⟨rfl, rfl⟩
theorem lNew_yes (nodes most : Int) (w : World) (h0 : 1 ≤ nodes) (h1 : nodes ≤ 65) (h2 : 1 ≤ most) (h3 : most ≤ 64) :
    Calls Try.prog 17 #[.int .i64 nodes, .int .i64 most] w fun e w' => ∃ B M, e = .returned (.tuple #[.pointer (some ⟨B, 0, none⟩), .int .i64 0]) ∧ Net w.heap.size B M nodes most (fun _ => none) 0 w' ∧ Below w.heap.size w w' := by
  have hmm := @run_makeMap Try.prog
  have d1 : decide (nodes < 1) = false := decide_eq_false (by omega)
  have d2 : decide (65 < nodes) = false := decide_eq_false (by omega)
  have d3 : decide (most < 1) = false := decide_eq_false (by omega)
  have d4 : decide (64 < most) = false := decide_eq_false (by omega)
  go_enter Try.func17, Try.ntmps17
  go_wp2_with fail
  go_ret2
  refine ⟨_, w.heap.size, rfl, ⟨by simp, Nat.le_refl _, by simp, ?_, rows_kept (rows_made w) (World.grownBy_alloc _ _ none) (by simp)⟩, ((Below.refl _ _).alloc (Nat.le_refl _) _).alloc (by simp) _⟩
  have := (MapKept.heap_alloc (w.alloc (.map #[] 0)) (.cells #[.int .i64 nodes, .int .i64 most, .map (some w.heap.size)] 88)).1
  rw [World.size_alloc] at this
  exact this
set_option maxHeartbeats 1000000 in
theorem asked_ok {N B M : Nat} {nodes most : Int} {f : Lit → Option Value} {n : Nat} {w : World} (h : Net N B M nodes most f n w) {a b : Int} (h0 : 0 ≤ a) (h1 : a < nodes) (h2 : 0 ≤ b) (h3 : b < nodes) (hab : a ≠ b) :
    Calls Try.prog 48 #[.pointer (some ⟨B, 0, none⟩), .agg #[.int .i64 a, .int .i64 b]] w fun e w' => e = .returned (.int .i64 0) ∧ Below w.heap.size w w' := by
  have HK := Lib.hid (h.below ((Below.refl _ w).alloc (Nat.le_refl _) (Obj.cells #[.int .i64 a, .int .i64 b] 92)))
  have e1 : (a == b) = false := by simpa using hab
  have e2 : decide (a = b) = false := by simpa using hab
  clear h
  go_enter Try.func48, Try.ntmps48
  go_wp2_with fail
  refine (lis_yes HK.out (by omega)).mono ?_
  rintro e w1 ⟨rfl, rfl⟩
  go_wp2_with fail
  refine (node_yes HK.out h0 h1).mono ?_
  rintro e w1 ⟨rfl, rfl⟩
  go_wp2_with fail
  refine (node_yes HK.out h2 h3).mono ?_
  rintro e w1 ⟨rfl, rfl⟩
  go_wp2_with fail
  go_ret
  exact ⟨rfl, (Below.refl _ _).alloc (Nat.le_refl _) _⟩
set_option maxHeartbeats 1000000 in
theorem asked_same {N B M : Nat} {nodes most : Int} {f : Lit → Option Value} {n : Nat} {w : World} (h : Net N B M nodes most f n w) {a : Int} (h0 : 0 ≤ a) (h1 : a < nodes) :
    Calls Try.prog 48 #[.pointer (some ⟨B, 0, none⟩), .agg #[.int .i64 a, .int .i64 a]] w fun e w' => e = .returned (.int .i64 190) ∧ Below w.heap.size w w' := by
  have HK := Lib.hid (h.below ((Below.refl _ w).alloc (Nat.le_refl _) (Obj.cells #[.int .i64 a, .int .i64 a] 92)))
  clear h
  go_enter Try.func48, Try.ntmps48
  go_wp2_with fail
  refine (lis_yes HK.out (by omega)).mono ?_
  rintro e w1 ⟨rfl, rfl⟩
  go_wp2_with fail
  refine (node_yes HK.out h0 h1).mono ?_
  rintro e w1 ⟨rfl, rfl⟩
  go_wp2_with fail
  refine (node_yes HK.out h0 h1).mono ?_
  rintro e w1 ⟨rfl, rfl⟩
  go_wp2_with fail
  go_ret
  exact ⟨rfl, (Below.refl _ _).alloc (Nat.le_refl _) _⟩
end Go.Proofs.Ytklkhlipecphkaa
