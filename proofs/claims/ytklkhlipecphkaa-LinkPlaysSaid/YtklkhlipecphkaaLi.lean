/- Link: a line that is none; the ops that come in; the law LinkNone. -/
import Derived.Test.YtklkhlipecphkaaLh
namespace Go.Proofs.Ytklkhlipecphkaa
open Go.RowKit Go.Joins Go.Maps
set_option maxRecDepth 100000
set_option linter.unusedVariables false

def intOf : Value → Int
  | .int _ z => z
  | _ => 0

/-- A line that is none. -/
def NoNet (w : World) (p : Option Addr) : Prop := p = none ∨ ∃ B, p = some ⟨B, 0, none⟩ ∧ w.cell? ⟨B, 0, none⟩ = some (.int .i64 0)
theorem NoNet.below {w w' : World} {p : Option Addr} (h : NoNet w p) (hb : Below w.heap.size w w') : NoNet w' p := by
  rcases h with rfl | ⟨B, rfl, hc⟩
  · exact .inl rfl
  · exact .inr ⟨B, rfl, (hb.cell (lt_of_cell hc)).trans hc⟩
theorem lis_none (w : World) : Calls Try.prog 50 #[.pointer none] w fun e w' => e = .returned (.bool false) ∧ w' = w := by
  go_enter Try.func50, Try.ntmps50
  go_wp2_with fail
  go_ret
  exact ⟨rfl, rfl⟩
theorem lis_zero (B : Nat) (w : World) (h : w.cell? ⟨B, 0, none⟩ = some (.int .i64 0)) : Calls Try.prog 50 #[.pointer (some ⟨B, 0, none⟩)] w fun e w' => e = .returned (.bool false) ∧ w' = w := by
  go_enter Try.func50, Try.ntmps50
  go_wp2_with fail
  go_ret
  exact ⟨rfl, rfl⟩
theorem lis_no {w : World} {p : Option Addr} (h : NoNet w p) : Calls Try.prog 50 #[.pointer p] w fun e w' => e = .returned (.bool false) ∧ w' = w := by
  rcases h with rfl | ⟨B, rfl, hc⟩
  · exact lis_none w
  · exact lis_zero B w hc
theorem asked_no {w : World} {p : Option Addr} (h : NoNet w p) (a b : Int) : Calls Try.prog 48 #[.pointer p, .agg #[.int .i64 a, .int .i64 b]] w fun e w' => e = .returned (.int .i64 1) ∧ Below w.heap.size w w' := by
  have A0 := (Below.refl _ w).alloc (Nat.le_refl _) (Obj.cells #[.int .i64 a, .int .i64 b] 92)
  have HIS := Lib.hid (lis_no (h.below A0)); have HA := Lib.hid A0
  clear h A0
  go_enter Try.func48, Try.ntmps48
  go_wp2_with fail
  refine HIS.out.mono ?_
  rintro e w1 ⟨rfl, rfl⟩
  go_wp2_with fail
  go_ret
  exact ⟨rfl, HA.out⟩
theorem named_no {w : World} {p : Option Addr} (h : NoNet w p) (a b i : Int) : Calls Try.prog 51 #[.pointer p, .agg #[.int .i64 a, .int .i64 b], .int .i64 i] w fun e w' => e = .returned (.int .i64 1) ∧ Below w.heap.size w w' := by
  have A0 := (Below.refl _ w).alloc (Nat.le_refl _) (Obj.cells #[.int .i64 a, .int .i64 b] 92)
  have HIS := Lib.hid (asked_no (h.below A0) a b)
  clear h A0
  go_enter Try.func51, Try.ntmps51
  go_wp2_with fail
  refine HIS.out.mono ?_
  rintro e w1 ⟨rfl, hb⟩
  have HB := Lib.hid (Below.step hb)
  clear hb
  go_wp2_with fail
  go_ret
  exact ⟨rfl, HB.out⟩
theorem Send_no {w : World} {p : Option Addr} (h : NoNet w p) (a b : Int) (v : Value) : Calls Try.prog 18 #[.pointer p, .int .i64 a, .int .i64 b, v] w fun e w' => e = .returned (.int .i64 1) ∧ Below w.heap.size w w' := by
  have A0 := (Below.refl _ w).alloc (Nat.le_refl _) (Obj.cells #[.int .i64 a, .int .i64 b] 92)
  have HIS := Lib.hid (asked_no (h.below A0) a b)
  clear h A0
  go_enter Try.func18, Try.ntmps18
  go_wp2_with fail
  refine HIS.out.mono ?_
  rintro e w1 ⟨rfl, hb⟩
  have HB := Lib.hid (Below.step hb)
  clear hb
  go_wp2_with fail
  go_ret
  exact ⟨rfl, HB.out⟩
theorem Waits_no {w : World} {p : Option Addr} (h : NoNet w p) (a b : Int) : Calls Try.prog 19 #[.pointer p, .int .i64 a, .int .i64 b] w fun e w' => e = .returned (.int .i64 0) ∧ Below w.heap.size w w' := by
  have HIS := Lib.hid (lis_no h)
  clear h
  go_enter Try.func19, Try.ntmps19
  go_wp2_with fail
  refine HIS.out.mono ?_
  rintro e w1 ⟨rfl, rfl⟩
  go_wp2_with fail
  go_ret
  exact ⟨rfl, Below.refl _ _⟩
theorem Next_no19 {w : World} {p : Option Addr} (h : NoNet w p) (a : Int) : Calls Try.prog 44 #[.pointer p, .int .i64 a] w fun e w' => e = .returned (.tuple #[.int .i64 0, .bool false]) ∧ Below w.heap.size w w' := by
  have HIS := Lib.hid (lis_no h)
  clear h
  go_enter Try.func44, Try.ntmps44
  go_wp2_with fail
  refine HIS.out.mono ?_
  rintro e w1 ⟨rfl, rfl⟩
  go_wp2_with fail
  go_ret2
  exact ⟨rfl, Below.refl _ _⟩
theorem Bytes_no {w : World} {p : Option Addr} (h : NoNet w p)  : Calls Try.prog 41 #[.pointer p] w fun e w' => e = .returned (.int .i64 0) ∧ Below w.heap.size w w' := by
  have HIS := Lib.hid (lis_no h)
  clear h
  go_enter Try.func41, Try.ntmps41
  go_wp2_with fail
  refine HIS.out.mono ?_
  rintro e w1 ⟨rfl, rfl⟩
  go_wp2_with fail
  go_ret
  exact ⟨rfl, Below.refl _ _⟩
theorem Take_no {w : World} {p : Option Addr} (h : NoNet w p) (a b i : Int) : Calls Try.prog 20 #[.pointer p, .int .i64 a, .int .i64 b, .int .i64 i] w fun e w' => e = .returned (.tuple #[.slice none 0 0, .int .i64 1]) ∧ Below w.heap.size w w' := by
  have A0 := (Below.refl _ w).alloc (Nat.le_refl _) (Obj.cells #[.int .i64 a, .int .i64 b] 92)
  have HIS := Lib.hid (named_no (h.below A0) a b i)
  clear h A0
  go_enter Try.func20, Try.ntmps20
  go_wp2_with fail
  refine HIS.out.mono ?_
  rintro e w1 ⟨rfl, hb⟩
  have HB := Lib.hid (Below.step hb)
  clear hb
  go_wp2_with fail
  go_ret2
  exact ⟨rfl, HB.out⟩
theorem Double_no {w : World} {p : Option Addr} (h : NoNet w p) (a b i : Int) : Calls Try.prog 29 #[.pointer p, .int .i64 a, .int .i64 b, .int .i64 i] w fun e w' => e = .returned (.int .i64 1) ∧ Below w.heap.size w w' := by
  have A0 := (Below.refl _ w).alloc (Nat.le_refl _) (Obj.cells #[.int .i64 a, .int .i64 b] 92)
  have HIS := Lib.hid (named_no (h.below A0) a b i)
  clear h A0
  go_enter Try.func29, Try.ntmps29
  go_wp2_with fail
  refine HIS.out.mono ?_
  rintro e w1 ⟨rfl, hb⟩
  have HB := Lib.hid (Below.step hb)
  clear hb
  go_wp2_with fail
  go_ret
  exact ⟨rfl, HB.out⟩
theorem Flip_no {w : World} {p : Option Addr} (h : NoNet w p) (a b i bit : Int) : Calls Try.prog 30 #[.pointer p, .int .i64 a, .int .i64 b, .int .i64 i, .int .i64 bit] w fun e w' => e = .returned (.int .i64 1) ∧ Below w.heap.size w w' := by
  have A0 := (Below.refl _ w).alloc (Nat.le_refl _) (Obj.cells #[.int .i64 a, .int .i64 b] 92)
  have HIS := Lib.hid (named_no (h.below A0) a b i)
  clear h A0
  go_enter Try.func30, Try.ntmps30
  go_wp2_with fail
  refine HIS.out.mono ?_
  rintro e w1 ⟨rfl, hb⟩
  have HB := Lib.hid (Below.step hb)
  clear hb
  go_wp2_with fail
  go_ret
  exact ⟨rfl, HB.out⟩
theorem Drop_no {w : World} {p : Option Addr} (h : NoNet w p) (a b i : Int) : Calls Try.prog 45 #[.pointer p, .int .i64 a, .int .i64 b, .int .i64 i] w fun e w' => e = .returned (.int .i64 1) ∧ Below w.heap.size w w' := by
  have HIS := Lib.hid (Take_no h a b i)
  clear h
  go_enter Try.func45, Try.ntmps45
  go_wp2_with fail
  refine HIS.out.mono ?_
  rintro e w1 ⟨rfl, hb⟩
  have HB := Lib.hid hb
  clear hb
  go_wp2_with fail
  go_ret
  exact ⟨rfl, HB.out⟩

structure OpB where
  k : Int
  f : Int
  t : Int
  i : Int
  b : Int
  ob : Option Addr
  lb : Nat
  cb : Nat
  zs : List Int
theorem add_field (x : Addr) (m j : Nat) (hj : j ≠ 0) : x.add (m + j) = ⟨(x.add m).block, (x.add m).off + j, none⟩ := by
  unfold Addr.add
  by_cases h : m = 0
  · subst h; simp [hj]
  · simp [h, hj, Nat.add_assoc]
/-- An op that came in, where it lies. -/
structure IsOp (w : World) (x : Addr) (j : Nat) (o : OpB) : Prop where
  c0 : w.cell? (x.add (j * 6)) = some (.int .i64 o.k)
  c1 : w.cell? ⟨(x.add (j * 6)).block, (x.add (j * 6)).off + 1, none⟩ = some (.int .i64 o.f)
  c2 : w.cell? ⟨(x.add (j * 6)).block, (x.add (j * 6)).off + 2, none⟩ = some (.int .i64 o.t)
  c3 : w.cell? ⟨(x.add (j * 6)).block, (x.add (j * 6)).off + 3, none⟩ = some (.int .i64 o.i)
  c4 : w.cell? ⟨(x.add (j * 6)).block, (x.add (j * 6)).off + 4, none⟩ = some (.int .i64 o.b)
  c5 : w.cell? ⟨(x.add (j * 6)).block, (x.add (j * 6)).off + 5, none⟩ = some (.slice o.ob o.lb o.cb)
  by_ : IsBytes w o.ob o.lb o.cb o.zs
  lc : o.lb ≤ maxLen
theorem IsBytes.below {w w' : World} {a : Option Addr} {l c : Nat} {zs : List Int} (h : IsBytes w a l c zs) (hb : Below w.heap.size w w') : IsBytes w' a l c zs := by
  rcases h with h | ⟨x, h1, h2, h3, h4, h5, h6⟩
  · exact .inl h
  · exact .inr ⟨x, h1, h2, h3, h4, fun i hi => (hb.cell (lt_of_cell (h5 i hi))).trans (h5 i hi), h6⟩
theorem IsBytes.le {w : World} {a : Option Addr} {l c : Nat} {zs : List Int} (h : IsBytes w a l c zs) : l ≤ maxLen := by
  rcases h with ⟨_, h, _⟩ | ⟨x, h1, h2, h3, _⟩ <;> omega
theorem IsOp.below {w w' : World} {x : Addr} {j : Nat} {o : OpB} (h : IsOp w x j o) (hb : Below w.heap.size w w') : IsOp w' x j o :=
  ⟨(hb.cell (lt_of_cell h.c0)).trans h.c0, (hb.cell (lt_of_cell h.c1)).trans h.c1, (hb.cell (lt_of_cell h.c2)).trans h.c2, (hb.cell (lt_of_cell h.c3)).trans h.c3, (hb.cell (lt_of_cell h.c4)).trans h.c4, (hb.cell (lt_of_cell h.c5)).trans h.c5, h.by_.below hb, h.lc⟩
/-- The ops that came in. -/
def IsOpBs (w : World) (a : Option Addr) (len cap : Nat) (O : Nat → OpB) : Prop := len ≤ maxLen ∧ (0 < len → ∃ x, a = some x ∧ ∀ j, j < len → IsOp w x j (O j))
theorem IsOpBs.below {w w' : World} {a : Option Addr} {len cap : Nat} {O : Nat → OpB} (h : IsOpBs w a len cap O) (hb : Below w.heap.size w w') : IsOpBs w' a len cap O := ⟨h.1, fun hl => by
  obtain ⟨x, e, hx⟩ := h.2 hl
  exact ⟨x, e, fun j hj => (hx j hj).below hb⟩⟩

set_option maxHeartbeats 1000000 in
theorem few_long (oa : Option Addr) (len cap : Nat) (w : World) (h : 100 < len) : Calls Try.prog 38 #[.slice oa len cap] w fun e w' => e = .returned (.bool false) ∧ Below w.heap.size w w' := by
  have d1 : decide (100 < (len : Int)) = true := decide_eq_true (by omega)
  go_enter Try.func38, Try.ntmps38
  go_wp2_with fail
  go_ret
  exact ⟨rfl, Below.refl _ _⟩
set_option maxHeartbeats 4000000 in
theorem few_any (oa : Option Addr) (len cap : Nat) (O : Nat → OpB) (w : World) (h : len ≤ 100) (hO : IsOpBs w oa len cap O) :
    Calls Try.prog 38 #[.slice oa len cap] w fun e w' => (e = .returned (.bool false) ∨ e = .returned (.bool true) ∧ ∀ j, j < len → (O j).lb ≤ 300) ∧ Below w.heap.size w w' := by
  have d1 : decide (100 < (len : Int)) = false := decide_eq_false (by omega)
  have HO := Lib.hid hO
  clear hO
  go_enter Try.func38, Try.ntmps38
  go_wp2_with fail
  go_loopw [4, 10] (fun _ i W => ∃ k : Nat, k ≤ len ∧ i = .int .i64 (k : Int) ∧ (∀ j, j < k → (O j).lb ≤ 300) ∧ Below w.heap.size w W) (fun _ i _ => len - (intOf i).toNat)
  case atStart => exact ⟨0, Nat.zero_le _, rfl, fun _ h => absurd h (by omega), Below.refl _ _⟩
  case round =>
    obtain ⟨k, hk, rfl, hsm, hB⟩ := hrel
    have HS := Lib.hid hsm; have HBB := Lib.hid hB
    clear hsm
    by_cases hlt : k < len
    · obtain ⟨x, rfl, hx⟩ := HO.out.2 (by omega)
      have ho := (hx k hlt).below hB
      obtain ⟨op, hop⟩ : ∃ op, op = O k := ⟨_, rfl⟩
      rw [← hop] at ho
      obtain ⟨c0, c1, c2, c3, c4, c5, hby, hlc⟩ := ho
      have HOP := Lib.hid hop
      clear hop hx hB hby
      have e1 : decide ((k : Int) < (len : Int)) = true := decide_eq_true (by omega)
      unfold maxLen at hlc
      by_cases hb : 300 < op.lb
      · have e2 : decide (300 < (op.lb : Int)) = true := decide_eq_true (by omega)
        go_wp2_with fail
        go_ret
        exact ⟨.inl rfl, HBB.out.alloc HBB.out.size _⟩
      · have e2 : decide (300 < (op.lb : Int)) = false := decide_eq_false (by omega)
        go_wp2_with fail
        go_roundw
        case rel =>
          refine ⟨k + 1, by omega, by go_num, fun j hj => ?_, HBB.out.alloc HBB.out.size _⟩
          rcases Nat.lt_or_ge j k with h | h
          · exact HS.out j h
          · obtain rfl : j = k := by omega
            rw [← HOP.out]; omega
        case measure => simp [intOf]; omega
    · have e1 : decide ((k : Int) < (len : Int)) = false := decide_eq_false (by omega)
      go_wp2_with fail
      go_ret
      exact ⟨.inr ⟨rfl, fun j hj => HS.out j (by omega)⟩, HBB.out⟩
end Go.Proofs.Ytklkhlipecphkaa
