/- Link: Send, named, Waits, Take. -/
import Derived.Test.YtklkhlipecphkaaLb
namespace Go.Proofs.Ytklkhlipecphkaa
open Go.RowKit Go.Joins Go.Maps
set_option maxRecDepth 100000
set_option linter.unusedVariables false

def kv (a b : Int) : Obj := .cells #[.int .i64 a, .int .i64 b] 92
theorem keycell {w1 : World} {k : Nat} {a b : Int} (h : w1.heap[k]? = some (kv a b)) : w1.cell? ⟨k, 0, none⟩ = some (.int .i64 a) ∧ w1.cell? ⟨k, 1, none⟩ = some (.int .i64 b) := by
  constructor <;> simp [World.cell?, h, kv]
theorem LayPost.from {N B M : Nat} {nodes most : Int} {f : Lit → Option Value} {n : Nat} {kl : Lit} {us bs : List Value} {w w1 w' : World} {e : Ending} (hb : Below w.heap.size w w1) (h : LayPost N B M nodes most f n kl us bs w1 e w') : LayPost N B M nodes most f n kl us bs w e w' := by
  obtain ⟨he, v', u', h1, h2, h3, h4, h5, h6⟩ := h
  refine ⟨he, v', u', h1, h2, h3, fun k hk => Nat.le_trans hb.size (h4 k hk), Chg.trans (S := fun _ => False) (Chg.of_below hb) h5 (fun _ _ h => h.elim) (fun _ _ h => h), ?_⟩
  rcases h6 with h6 | ⟨k, e, hk⟩
  · exact .inl h6
  · exact .inr ⟨k, e, Nat.le_trans hb.size hk⟩
theorem Below.step {w w1 : World} {o : Obj} (h : Below (w.alloc o).heap.size (w.alloc o) w1) : Below w.heap.size w w1 := ((Below.refl _ w).alloc (Nat.le_refl _) o).trans (h.mono (by rw [World.size_alloc]; omega))
theorem Below.newObj {w w1 : World} {o : Obj} (h : Below (w.alloc o).heap.size (w.alloc o) w1) : w1.heap[w.heap.size]? = some o := (h.block _ (by rw [World.size_alloc]; omega)).trans (MapKept.heap_alloc w o).1
theorem row_below {w w' : World} {base e size n : Nat} {v : Value} {xs : List Value} (h : w.ownsRow base e size v n xs) (hb : Below w.heap.size w w') : w'.ownsRow base e size v n xs := h.kept (grown_of_below hb) (by cases v.ownBlock <;> simp)
theorem cells_below {w w' : World} {ad : Addr} {bs : List Value} (hc : ∀ j u, bs[j]? = some u → w.cell? (ad.add j) = some u) (hb : Below w.heap.size w w') : ∀ j u, bs[j]? = some u → w'.cell? (ad.add j) = some u := fun j u hu => by
  have c := hc j u hu
  have : ∃ o, w.heap[(ad.add j).block]? = some o := by
    cases e : w.heap[(ad.add j).block]? with
    | none => simp [World.cell?, e] at c
    | some o => exact ⟨o, rfl⟩
  obtain ⟨o, ho⟩ := this
  rw [hb.cell (Array.getElem?_eq_some_iff.1 ho).1]; exact c

set_option maxHeartbeats 1000000 in
theorem Send_ok {N B M : Nat} {nodes most : Int} {f : Lit → Option Value} {n : Nat} {w : World} (h : Net N B M nodes most f n w) (hn : n < maxLen) {a b : Int} {kl : Lit} (hkey : keyOf Try.prog 92 (wv a b) = some kl)
    (h0 : 0 ≤ a) (h1 : a < nodes) (h2 : 0 ≤ b) (h3 : b < nodes) (hab : a ≠ b) {us : List Value}
    (hrow : w.ownsRow N 34 1 ((f kl).getD (.slice none 0 0)) us.length us) (hlt : (us.length : Int) < most) (hm : most ≤ 64) {sv : Value} {bs : List Value} (hs : Src w sv bs) (hlen : bs.length ≤ 65548) (h1c : ∀ u ∈ bs, u.oneCell' = true) :
    Calls Try.prog 18 #[.pointer (some ⟨B, 0, none⟩), .int .i64 a, .int .i64 b, sv] w (LayPost N B M nodes most f n kl us bs w) := by
  obtain ⟨oad, cap, rfl⟩ := hs.form
  have d1 : decide (65548 < (bs.length : Int)) = false := decide_eq_false (by omega)
  have H := Lib.hid h; have HR := Lib.hid hrow; have HC := Lib.hid hs; have H3 := Lib.hid h3; have H1 := Lib.hid h1; have HL := Lib.hid hlt; have HN := Lib.hid hn; have HA := Lib.hid hab
  clear h hrow hs h3 h1 hlt hn hab
  go_enter Try.func18, Try.ntmps18
  go_wp2_with fail
  refine (asked_ok (H.out.below ((Below.refl _ w).alloc (Nat.le_refl _) (Obj.cells #[.int .i64 a, .int .i64 b] 92))) h0 H1.out h2 H3.out HA.out).mono ?_
  rintro e w1 ⟨rfl, hb⟩
  have hw := Below.step hb
  obtain ⟨kc0, kc1⟩ := keycell (Below.newObj hb)
  have HW := Lib.hid hw
  clear hb hw
  go_wp2_with fail
  refine (lay_ok (H.out.below HW.out) HN.out hkey (row_below HR.out HW.out) HL.out hm (HC.out.below HW.out) (by omega) h1c).mono ?_
  intro e w2 hp
  obtain ⟨rfl, hq⟩ := id hp
  have HP := Lib.hid hp
  clear hp hq
  go_wp2_with fail
  go_ret
  exact LayPost.from HW.out HP.out
set_option maxHeartbeats 1000000 in
theorem Send_full {N B M : Nat} {nodes most : Int} {f : Lit → Option Value} {n : Nat} {w : World} (h : Net N B M nodes most f n w) {a b : Int} {kl : Lit} (hkey : keyOf Try.prog 92 (wv a b) = some kl)
    (h0 : 0 ≤ a) (h1 : a < nodes) (h2 : 0 ≤ b) (h3 : b < nodes) (hab : a ≠ b) {us : List Value}
    (hrow : w.ownsRow N 34 1 ((f kl).getD (.slice none 0 0)) us.length us) (hfull : most ≤ (us.length : Int)) (oad : Option Addr) (len cap : Nat) (hlen : len ≤ 65548) :
    Calls Try.prog 18 #[.pointer (some ⟨B, 0, none⟩), .int .i64 a, .int .i64 b, .slice oad len cap] w fun e w' => e = .returned (.int .i64 170) ∧ Below w.heap.size w w' := by
  have d1 : decide (65548 < (len : Int)) = false := decide_eq_false (by omega)
  have H := Lib.hid h; have HR := Lib.hid hrow; have H3 := Lib.hid h3; have H1 := Lib.hid h1; have HL := Lib.hid hfull; have HA := Lib.hid hab
  clear h hrow h3 h1 hfull hab
  go_enter Try.func18, Try.ntmps18
  go_wp2_with fail
  refine (asked_ok (H.out.below ((Below.refl _ w).alloc (Nat.le_refl _) (Obj.cells #[.int .i64 a, .int .i64 b] 92))) h0 H1.out h2 H3.out HA.out).mono ?_
  rintro e w1 ⟨rfl, hb⟩
  have hw := Below.step hb
  obtain ⟨kc0, kc1⟩ := keycell (Below.newObj hb)
  have HW := Lib.hid hw
  clear hb hw
  go_wp2_with fail
  refine (lay_full (H.out.below HW.out) hkey (row_below HR.out HW.out) HL.out _).mono ?_
  rintro e w2 ⟨rfl, hb⟩
  have HP := Lib.hid hb
  clear hb
  go_wp2_with fail
  go_ret
  exact ⟨rfl, HW.out.trans (HP.out.mono HW.out.size)⟩
set_option maxHeartbeats 1000000 in
theorem Send_same {N B M : Nat} {nodes most : Int} {f : Lit → Option Value} {n : Nat} {w : World} (h : Net N B M nodes most f n w) {a : Int} (h0 : 0 ≤ a) (h1 : a < nodes) (u : Value) :
    Calls Try.prog 18 #[.pointer (some ⟨B, 0, none⟩), .int .i64 a, .int .i64 a, u] w fun e w' => e = .returned (.int .i64 190) ∧ Below w.heap.size w w' := by
  have H := Lib.hid h; have H1 := Lib.hid h1
  clear h h1
  go_enter Try.func18, Try.ntmps18
  go_wp2_with fail
  refine (asked_same (H.out.below ((Below.refl _ w).alloc (Nat.le_refl _) (Obj.cells #[.int .i64 a, .int .i64 a] 92))) h0 H1.out).mono ?_
  rintro e w1 ⟨rfl, hb⟩
  have HW := Lib.hid (Below.step hb)
  clear hb
  go_wp2_with fail
  go_ret
  exact ⟨rfl, HW.out⟩
set_option maxHeartbeats 1000000 in
theorem Waits_ok {N B M : Nat} {nodes most : Int} {f : Lit → Option Value} {n : Nat} {w : World} (h : Net N B M nodes most f n w) (hp : 0 < nodes) {a b : Int} {kl : Lit} (hkey : keyOf Try.prog 92 (wv a b) = some kl) {us : List Value}
    (hrow : w.ownsRow N 34 1 ((f kl).getD (.slice none 0 0)) us.length us) :
    Calls Try.prog 19 #[.pointer (some ⟨B, 0, none⟩), .int .i64 a, .int .i64 b] w fun e w' => e = .returned (.int .i64 us.length) ∧ w' = w := by
  have hl := rows_look h.map hkey
  obtain ⟨v, hv⟩ : ∃ v, v = (f kl).getD (.slice none 0 0) := ⟨_, rfl⟩
  rw [← hv] at hl hrow
  unfold wv at hl
  clear hv
  obtain ⟨m, hm⟩ : ∃ m, m = us.length := ⟨_, rfl⟩
  rw [← hm] at hrow ⊢
  clear hm
  obtain ⟨oa, cap, rfl⟩ : ∃ oa cap, v = .slice oa m cap := by
    rcases ownsRow_forms hrow with ⟨h, h0⟩ | ⟨g, cp, h⟩
    · exact ⟨none, 0, by rw [h, h0]⟩
    · exact ⟨_, cp, h⟩
  have c2 := h.c2
  have H := Lib.hid h
  clear h hrow
  go_enter Try.func19, Try.ntmps19
  go_wp2_with fail
  refine (lis_yes H.out hp).mono ?_
  rintro e w1 ⟨rfl, rfl⟩
  go_wp2_with fail
  go_ret
  exact ⟨rfl, rfl⟩
set_option maxHeartbeats 1000000 in
theorem named_ok {N B M : Nat} {nodes most : Int} {f : Lit → Option Value} {n : Nat} {w : World} (h : Net N B M nodes most f n w) {a b : Int} {kl : Lit} (hkey : keyOf Try.prog 92 (wv a b) = some kl)
    (h0 : 0 ≤ a) (h1 : a < nodes) (h2 : 0 ≤ b) (h3 : b < nodes) (hab : a ≠ b) {us : List Value}
    (hrow : w.ownsRow N 34 1 ((f kl).getD (.slice none 0 0)) us.length us) {i : Int} (hi0 : 0 ≤ i) (hi1 : i < (us.length : Int)) :
    Calls Try.prog 51 #[.pointer (some ⟨B, 0, none⟩), .agg #[.int .i64 a, .int .i64 b], .int .i64 i] w fun e w' => e = .returned (.int .i64 0) ∧ Below w.heap.size w w' := by
  have H := Lib.hid h; have H3 := Lib.hid h3; have H1 := Lib.hid h1; have HA := Lib.hid hab
  obtain ⟨v, hv⟩ : ∃ v, v = (f kl).getD (.slice none 0 0) := ⟨_, rfl⟩
  rw [← hv] at hrow
  obtain ⟨m, hm⟩ : ∃ m, m = us.length := ⟨_, rfl⟩
  rw [← hm] at hrow hi1
  clear hm
  obtain ⟨oa, cap, rfl⟩ : ∃ oa cap, v = .slice oa m cap := by
    rcases ownsRow_forms hrow with ⟨h, h0⟩ | ⟨g, cp, h⟩
    · exact ⟨none, 0, by rw [h, h0]⟩
    · exact ⟨_, cp, h⟩
  have HV := Lib.hid hv
  have d1 : decide (i < 0) = false := decide_eq_false (by omega)
  have d2 : decide ((m : Int) ≤ i) = false := decide_eq_false (by omega)
  clear h h3 h1 hab hrow hv hi1
  go_enter Try.func51, Try.ntmps51
  go_wp2_with fail
  refine (asked_ok (H.out.below ((Below.refl _ w).alloc (Nat.le_refl _) (Obj.cells #[.int .i64 a, .int .i64 b] 92))) h0 H1.out h2 H3.out HA.out).mono ?_
  rintro e w1 ⟨rfl, hb⟩
  have n1 := H.out.below (Below.step hb)
  obtain ⟨kc0, kc1⟩ := keycell (Below.newObj hb)
  have hl := rows_look (w := w1.drew) n1.drew.map hkey
  rw [← HV.out] at hl
  unfold wv at hl
  have c2 := n1.c2
  have HW := Lib.hid (Below.step hb)
  clear hb n1
  go_wp2_with fail
  go_region_held (fun W => W.cell? ⟨B, 2, none⟩ = some (.map (some M)) ∧ W.cell? ⟨w.heap.size, 0, none⟩ = some (.int .i64 a) ∧ W.cell? ⟨w.heap.size, 1, none⟩ = some (.int .i64 b)) (exact ⟨c2, kc0, kc1⟩) (fail)
  go_wp2_with fail
  go_ret
  exact ⟨rfl, HW.out.drew⟩
end Go.Proofs.Ytklkhlipecphkaa
