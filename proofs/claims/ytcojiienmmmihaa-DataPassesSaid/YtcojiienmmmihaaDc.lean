/- Walks: the turns of a batch: an iterator. -/
import Derived.RangeFuncNested
import Derived.RangeFuncBound
import Derived.RangeFuncCalls
import Derived.RangeFuncLeaves
import Derived.Shelf.Abstract
import Derived.Shelf.RegionOpen
import Derived.WalkKit
import Derived.OwnWalkIn
import Derived.TacticsInMore
import Derived.LoopNIn
import Derived.LoopIn
import Derived.Lib.Hide
import Derived.Test.YtcojiienmmmihaaPre
import Derived.Test.YtcojiienmmmihaaProg
namespace Go.Proofs.Ytcojiienmmmihaa
open Go.RowKit Go.Shelf
set_option maxRecDepth 100000
set_option linter.unusedVariables false
attribute [local go_sem] Oper.semAt_some

/-- A place in a pass over n things. -/
abbrev Turn (n : Nat) := { t : Nat × Nat // t.2 < n ∧ t.1 ≤ 8191 }
def Turn.enc {n : Nat} (t : Turn n) : Value := .agg #[.int .i64 (t.1.1 : Int), .int .i64 (t.1.2 : Int)]
def turnAt (q n k : Nat) (h : 1 ≤ n) : Turn n := ⟨(min ((q + k) / n) 8191, (q + k) % n), Nat.mod_lt _ h, Nat.min_le_right _ _⟩
def turnsTo (q n k : Nat) (h : 1 ≤ n) : List (Turn n) := (List.range k).map fun j => turnAt q n j h
theorem turnsTo_succ (q n k : Nat) (h : 1 ≤ n) : turnsTo q n (k + 1) h = turnsTo q n k h ++ [turnAt q n k h] := by simp [turnsTo, List.range_succ]
theorem turnsTo_length (q n k : Nat) (h : 1 ≤ n) : (turnsTo q n k h).length = k := by simp [turnsTo]
theorem turnsTo_prefix (q n k m : Nat) (h : 1 ≤ n) (hk : k ≤ m) : turnsTo q n k h <+: turnsTo q n m h := by
  refine List.IsPrefix.map _ ?_
  obtain ⟨d, rfl⟩ : ∃ d, m = k + d := ⟨m - k, by omega⟩
  exact ⟨(List.range d).map (k + ·), by rw [List.range_add]⟩
theorem turnAt_enc (q n k : Nat) (h : 1 ≤ n) (hq : q + k ≤ 8191) : (turnAt q n k h).enc = .agg #[.int .i64 (((q + k) / n : Nat) : Int), .int .i64 (((q + k) % n : Nat) : Int)] := by
  have : (q + k) / n ≤ 8191 := Nat.le_trans (Nat.div_le_self _ _) hq
  simp [Turn.enc, turnAt, Nat.min_eq_left this]

theorem yes_or_no {e : Ending} {A B : Prop} (h : (e = .returned (.bool true) ∧ A) ∨ (e = .returned (.bool false) ∧ B)) : ∃ bb : Bool, e = .returned (.bool bb) ∧ ((bb = true ∧ A) ∨ (bb = false ∧ B)) := by
  rcases h with ⟨h, a⟩ | ⟨h, b⟩
  · exact ⟨true, h, .inl ⟨rfl, a⟩⟩
  · exact ⟨false, h, .inr ⟨rfl, b⟩⟩

/-- Two blocks lie as they lay. -/
def Keep2 (a b : Nat) (W W' : World) : Prop := W'.heap[a]? = W.heap[a]? ∧ W'.heap[b]? = W.heap[b]?
theorem Keep2.trans {a b : Nat} {A B C : World} (x : Keep2 a b A B) (y : Keep2 a b B C) : Keep2 a b A C := ⟨y.1.trans x.1, y.2.trans x.2⟩

def OnlyY (G : Act → World → Prop) : Exit → Act → World → Prop
  | .normal, a, w => G a w
  | _, _, _ => False
theorem OnlyY.imp {Q : Exit → Act → World → Prop} : ∀ (e : Exit) (a : Act) (w : World), OnlyY (fun a w => Q .normal a w) e a w → Q e a w := fun e a w h => by
  cases e <;> first | exact h | exact (h : False).elim

set_option maxHeartbeats 4000000 in
theorem yreg (F : Fence) (n : Nat) (hro : F.round = none) (hn : 1 ≤ n) (G : Act → World → Prop) (R : Bool → World → Prop) (wr : World) (l Bs Bq Bn q m k u dd rr size : Nat) (u10 u11 u12 u13 u14 u15 u16 u17 u18 u19 u20 u21 u22 u23 u24 : Value)
    (dq : wr.cell? ⟨Bq, 0, none⟩ = some (.int .i64 (q : Int))) (dn : wr.cell? ⟨Bn, 0, none⟩ = some (.int .i64 (m : Int)))
    (hm : 1 ≤ m) (hm2 : m ≤ 4096) (hu8 : u ≤ 8191) (hu : (q : Int) + (k : Int) = (u : Int)) (hd : (u : Int) / (m : Int) = (dd : Int)) (hwu : IntKind.i64.wrap (u : Int) = (u : Int)) (hwd : IntKind.i64.wrap (dd : Int) = (dd : Int)) (htm : (u : Int).tmod (m : Int) = (rr : Int)) (hr : (u : Int) % (m : Int) = (rr : Int)) (hdl : dd ≤ u)
    (fn : FuncId) (tmps : Array Value) (assign body : Code)
    (hy : (Instr.yield l #[.agg #[.int .i64 (dd : Int), .int .i64 (rr : Int)]]).run Try.prog wr.drew = .ok (.round l fn tmps assign body) wr.drew)
    (hR : RoundIn F (n - 1) Try.prog l fn tmps assign body wr.drew fun e W' => ∃ bb : Bool, e = .returned (.bool bb) ∧ R bb W')
    (hG : ∀ bb W3, R bb W3 → G { tmps := #[.func (.yield l) #[] #[], .pointer (some ⟨Bs, 0, none⟩), .pointer (some ⟨Bq, 0, none⟩), .pointer (some ⟨Bn, 0, none⟩), undef, .int .i64 (k : Int), .int .i64 (size : Int), .int .i64 (k : Int), .bool true, .int .i64 (k : Int), .func (.yield l) #[] #[], .int .i64 (q : Int), .int .i64 (k : Int), .int .i64 (u : Int), .int .i64 (m : Int), .int .i64 (dd : Int), .int .i64 (q : Int), .int .i64 (k : Int), .int .i64 (u : Int), .int .i64 (m : Int), .int .i64 (rr : Int), .agg #[.int .i64 (dd : Int), .int .i64 (rr : Int)], .bool bb, .bool (!bb), u24], defers := [] } W3) :
    (Go.Code.region 3 #[{ dst := some 10, op := Go.Op.move (Go.Operand.tmp 0), type := 99, pos := "data.go:72", after := #[], guard := none }, { dst := some 11, op := Go.Op.load 3 (Go.Operand.tmp 2), type := 3, pos := "data.go:72", after := #[], guard := none }, { dst := some 12, op := Go.Op.move (Go.Operand.tmp 5), type := 3, pos := "data.go:72", after := #[], guard := none }, { dst := some 13, op := Go.Op.binOp Go.BinOp.add 3 (Go.Operand.tmp 11) (Go.Operand.tmp 12) 3, type := 3, pos := "data.go:72", after := #[{ on := 1, ground := Go.Ground.data }, { on := 2, ground := Go.Ground.data }], guard := none }, { dst := some 14, op := Go.Op.load 3 (Go.Operand.tmp 3), type := 3, pos := "data.go:72", after := #[], guard := none }, { dst := some 15, op := Go.Op.binOp Go.BinOp.quo 3 (Go.Operand.tmp 13) (Go.Operand.tmp 14) 3, type := 3, pos := "data.go:72", after := #[{ on := 3, ground := Go.Ground.data }, { on := 4, ground := Go.Ground.data }], guard := none }, { dst := some 16, op := Go.Op.load 3 (Go.Operand.tmp 2), type := 3, pos := "data.go:72", after := #[], guard := none }, { dst := some 17, op := Go.Op.move (Go.Operand.tmp 5), type := 3, pos := "data.go:72", after := #[], guard := none }, { dst := some 18, op := Go.Op.binOp Go.BinOp.add 3 (Go.Operand.tmp 16) (Go.Operand.tmp 17) 3, type := 3, pos := "data.go:72", after := #[{ on := 6, ground := Go.Ground.data }, { on := 7, ground := Go.Ground.data }], guard := none }, { dst := some 19, op := Go.Op.load 3 (Go.Operand.tmp 3), type := 3, pos := "data.go:72", after := #[], guard := none }, { dst := some 20, op := Go.Op.binOp Go.BinOp.rem 3 (Go.Operand.tmp 18) (Go.Operand.tmp 19) 3, type := 3, pos := "data.go:72", after := #[{ on := 8, ground := Go.Ground.data }, { on := 9, ground := Go.Ground.data }], guard := none }, { dst := some 21, op := Go.Op.build 93 #[(0, Go.Operand.tmp 15), (1, Go.Operand.tmp 20)], type := 93, pos := "data.go:72", after := #[{ on := 5, ground := Go.Ground.data }, { on := 10, ground := Go.Ground.data }], guard := none }, { dst := some 22, op := Go.Op.call { callee := Go.Callee.value (Go.Operand.tmp 10), args := #[Go.Operand.tmp 21], argTypes := #[93] }, type := 4, pos := "data.go:72", after := #[{ on := 0, ground := Go.Ground.data }, { on := 11, ground := Go.Ground.data }], guard := none }, { dst := some 23, op := Go.Op.unOp Go.UnOp.not 4 (Go.Operand.tmp 22), type := 4, pos := "data.go:72", after := #[{ on := 12, ground := Go.Ground.data }], guard := none }] true).wpIn F n Try.prog (OnlyY G) { tmps := #[.func (.yield l) #[] #[], .pointer (some ⟨Bs, 0, none⟩), .pointer (some ⟨Bq, 0, none⟩), .pointer (some ⟨Bn, 0, none⟩), undef, .int .i64 (k : Int), .int .i64 (size : Int), .int .i64 (k : Int), .bool true, .int .i64 (k : Int), u10, u11, u12, u13, u14, u15, u16, u17, u18, u19, u20, u21, u22, u23, u24], defers := [] } wr := by
  refine wpIn_region_pre (l := [{ dst := some 10, op := Go.Op.move (Go.Operand.tmp 0), type := 99, pos := "data.go:72", after := #[], guard := none }, { dst := some 11, op := Go.Op.load 3 (Go.Operand.tmp 2), type := 3, pos := "data.go:72", after := #[], guard := none }, { dst := some 12, op := Go.Op.move (Go.Operand.tmp 5), type := 3, pos := "data.go:72", after := #[], guard := none }, { dst := some 13, op := Go.Op.binOp Go.BinOp.add 3 (Go.Operand.tmp 11) (Go.Operand.tmp 12) 3, type := 3, pos := "data.go:72", after := #[{ on := 1, ground := Go.Ground.data }, { on := 2, ground := Go.Ground.data }], guard := none }, { dst := some 14, op := Go.Op.load 3 (Go.Operand.tmp 3), type := 3, pos := "data.go:72", after := #[], guard := none }, { dst := some 15, op := Go.Op.binOp Go.BinOp.quo 3 (Go.Operand.tmp 13) (Go.Operand.tmp 14) 3, type := 3, pos := "data.go:72", after := #[{ on := 3, ground := Go.Ground.data }, { on := 4, ground := Go.Ground.data }], guard := none }, { dst := some 16, op := Go.Op.load 3 (Go.Operand.tmp 2), type := 3, pos := "data.go:72", after := #[], guard := none }, { dst := some 17, op := Go.Op.move (Go.Operand.tmp 5), type := 3, pos := "data.go:72", after := #[], guard := none }, { dst := some 18, op := Go.Op.binOp Go.BinOp.add 3 (Go.Operand.tmp 16) (Go.Operand.tmp 17) 3, type := 3, pos := "data.go:72", after := #[{ on := 6, ground := Go.Ground.data }, { on := 7, ground := Go.Ground.data }], guard := none }, { dst := some 19, op := Go.Op.load 3 (Go.Operand.tmp 3), type := 3, pos := "data.go:72", after := #[], guard := none }, { dst := some 20, op := Go.Op.binOp Go.BinOp.rem 3 (Go.Operand.tmp 18) (Go.Operand.tmp 19) 3, type := 3, pos := "data.go:72", after := #[{ on := 8, ground := Go.Ground.data }, { on := 9, ground := Go.Ground.data }], guard := none }, { dst := some 21, op := Go.Op.build 93 #[(0, Go.Operand.tmp 15), (1, Go.Operand.tmp 20)], type := 93, pos := "data.go:72", after := #[{ on := 5, ground := Go.Ground.data }, { on := 10, ground := Go.Ground.data }], guard := none }, { dst := some 22, op := Go.Op.call { callee := Go.Callee.value (Go.Operand.tmp 10), args := #[Go.Operand.tmp 21], argTypes := #[93] }, type := 4, pos := "data.go:72", after := #[{ on := 0, ground := Go.Ground.data }, { on := 11, ground := Go.Ground.data }], guard := none }, { dst := some 23, op := Go.Op.unOp Go.UnOp.not 4 (Go.Operand.tmp 22), type := 4, pos := "data.go:72", after := #[{ on := 12, ground := Go.Ground.data }], guard := none }]) (l1 := [{ dst := some 10, op := Go.Op.move (Go.Operand.tmp 0), type := 99, pos := "data.go:72", after := #[], guard := none }, { dst := some 11, op := Go.Op.load 3 (Go.Operand.tmp 2), type := 3, pos := "data.go:72", after := #[], guard := none }, { dst := some 12, op := Go.Op.move (Go.Operand.tmp 5), type := 3, pos := "data.go:72", after := #[], guard := none }, { dst := some 13, op := Go.Op.binOp Go.BinOp.add 3 (Go.Operand.tmp 11) (Go.Operand.tmp 12) 3, type := 3, pos := "data.go:72", after := #[{ on := 1, ground := Go.Ground.data }, { on := 2, ground := Go.Ground.data }], guard := none }, { dst := some 14, op := Go.Op.load 3 (Go.Operand.tmp 3), type := 3, pos := "data.go:72", after := #[], guard := none }, { dst := some 15, op := Go.Op.binOp Go.BinOp.quo 3 (Go.Operand.tmp 13) (Go.Operand.tmp 14) 3, type := 3, pos := "data.go:72", after := #[{ on := 3, ground := Go.Ground.data }, { on := 4, ground := Go.Ground.data }], guard := none }, { dst := some 16, op := Go.Op.load 3 (Go.Operand.tmp 2), type := 3, pos := "data.go:72", after := #[], guard := none }, { dst := some 17, op := Go.Op.move (Go.Operand.tmp 5), type := 3, pos := "data.go:72", after := #[], guard := none }, { dst := some 18, op := Go.Op.binOp Go.BinOp.add 3 (Go.Operand.tmp 16) (Go.Operand.tmp 17) 3, type := 3, pos := "data.go:72", after := #[{ on := 6, ground := Go.Ground.data }, { on := 7, ground := Go.Ground.data }], guard := none }, { dst := some 19, op := Go.Op.load 3 (Go.Operand.tmp 3), type := 3, pos := "data.go:72", after := #[], guard := none }, { dst := some 20, op := Go.Op.binOp Go.BinOp.rem 3 (Go.Operand.tmp 18) (Go.Operand.tmp 19) 3, type := 3, pos := "data.go:72", after := #[{ on := 8, ground := Go.Ground.data }, { on := 9, ground := Go.Ground.data }], guard := none }, { dst := some 21, op := Go.Op.build 93 #[(0, Go.Operand.tmp 15), (1, Go.Operand.tmp 20)], type := 93, pos := "data.go:72", after := #[{ on := 5, ground := Go.Ground.data }, { on := 10, ground := Go.Ground.data }], guard := none }]) 2 [[12, 13], [3, 5, 11, 12, 13], [3, 5, 11, 12, 13], [5, 11, 12, 13], [5, 11, 12, 13], [11, 12, 13], [8, 10, 11, 12, 13], [8, 10, 11, 12, 13], [10, 11, 12, 13], [10, 11, 12, 13], [11, 12, 13], [12, 13]] hro (by kernel_rfl) (by kernel_rfl) ?_ rfl (by kernel_rfl) ?_
  · intro j hj
    match j, hj with
    | 0, _ | 1, _ | 2, _ | 3, _ | 4, _ | 5, _ | 6, _ | 7, _ | 8, _ | 9, _ | 10, _ | 11, _ => rfl
    | j + 12, hj => exact absurd hj (by simp)
  repeat (gi_big_quiet_step (fail))
  refine wpQuietIn_nil ?_
  refine wpAnyIn_ready (rs := [12]) (by kernel_rfl) (by simp) ?_
  refine AllReadyIn.cons rfl (fun K hK => ?_) AllReadyIn.nil
  go_simp
  refine RoundIn.mono hR ?_
  rintro e W3 ⟨bb, rfl, hbb⟩
  go_simp
  refine hK _ _ ?_
  clear hK
  refine wpAnyIn_ready (rs := [13]) (by kernel_rfl) (by simp) ?_
  refine AllReadyIn.cons rfl (fun K' hK' => ?_) AllReadyIn.nil
  go_simp
  refine hK' _ _ ?_
  refine wpAnyIn_done (by kernel_rfl) ?_ _
  exact hG _ _ hbb

set_option maxHeartbeats 2000000 in
theorem turns1_in (F : Fence) (n : Nat) (h60 : F.fn 60) (hro : F.round = none) (hn : 1 ≤ n) (l Bs Bq Bn : Nat) (q size m : Nat) (hm : 1 ≤ m) (hm2 : m ≤ 4096) (hq : q + size ≤ 8191)
    (J Jx : List (Turn m) → World → Prop)
    (hY : ∀ pre x W, J pre W → pre.length < size → YieldAt F (n - 1) Try.prog l #[Turn.enc x] W fun e W' =>
      (e = .returned (.bool true) ∧ J (pre ++ [x]) W' ∧ Keep2 Bq Bn W W') ∨ (e = .returned (.bool false) ∧ Jx (pre ++ [x]) W'))
    (W : World) (hs : W.cell? ⟨Bs, 0, none⟩ = some (.int .i64 (size : Int))) (hqc : W.cell? ⟨Bq, 0, none⟩ = some (.int .i64 (q : Int))) (hnc : W.cell? ⟨Bn, 0, none⟩ = some (.int .i64 (m : Int)))
    (hA : AbidesFrom W.heap.size J) (h0 : J [] W) :
    CallsIn F n Try.prog 60 #[.func (.yield l) #[] #[], .pointer (some ⟨Bs, 0, none⟩), .pointer (some ⟨Bq, 0, none⟩), .pointer (some ⟨Bn, 0, none⟩)] W fun e W' => (∃ v, e = .returned v) ∧
      ((∃ ys, ys = turnsTo q m size hm ∧ J ys W') ∨ (∃ pre, pre <+: turnsTo q m size hm ∧ Jx pre W')) := by
  have HY := Lib.hid hY
  clear hY
  have HQ := Lib.hid hqc
  have HN := Lib.hid hnc
  clear hqc hnc
  refine callsIn_of_wp Try.func60 rfl h60 ?_ hro
  simp only [Try.ntmps60, List.size_toArray, List.length_cons, List.length_nil, Nat.reduceAdd, Nat.reduceSub, Array.replicate_succ, Array.replicate_zero, List.push_toArray, List.append_toArray, List.nil_append, List.cons_append]
  gi_wp2
  gi_loopw [5, 7] (fun _ i wr => ∃ k : Nat, k ≤ size ∧ i = .int .i64 (k : Int) ∧ J (turnsTo q m k hm) wr ∧ Keep2 Bq Bn W wr)
    (fun _ i _ => size - (match i with | .int _ z => z.toNat | _ => 0))
  case atStart => exact ⟨0, Nat.zero_le _, rfl, h0, rfl, rfl⟩
  case round =>
    obtain ⟨k, hk, rfl, hJ, hB⟩ := hrel
    by_cases hlt : k < size
    · have dq := (World.cell?_of_block (a := ⟨Bq, 0, none⟩) hB.1).trans HQ.out
      have dn := (World.cell?_of_block (a := ⟨Bn, 0, none⟩) hB.2).trans HN.out
      have hyy := HY.out _ (turnAt q m k hm) wr.drew (hA _ _ _ none hJ ⟨rfl, rfl, rfl, Nat.le_refl _, fun _ _ _ => rfl⟩ (fun r e => by cases e)) (by rw [turnsTo_length]; exact hlt)
      rw [turnAt_enc q m k hm (by omega)] at hyy
      have hu : (q : Int) + (k : Int) = ((q + k : Nat) : Int) := by omega
      have hu8 : q + k ≤ 8191 := by omega
      obtain ⟨u, hue⟩ : ∃ u, u = q + k := ⟨_, rfl⟩
      rw [← hue] at hyy hu hu8
      have HUE := Lib.hid hue
      clear hue
      have hd : ((u : Int) / (m : Int)) = ((u / m : Nat) : Int) := (Int.natCast_ediv u m).symm
      have hr : ((u : Int) % (m : Int)) = ((u % m : Nat) : Int) := (Int.natCast_emod u m).symm
      have hdl : u / m ≤ u := Nat.div_le_self _ _
      obtain ⟨dd, hdd⟩ : ∃ dd, dd = u / m := ⟨_, rfl⟩
      obtain ⟨rr, hrr⟩ : ∃ rr, rr = u % m := ⟨_, rfl⟩
      rw [← hdd] at hyy hd hdl
      rw [← hrr] at hyy hr
      clear hdd hrr
      have hwu : IntKind.i64.wrap (u : Int) = (u : Int) := by rw [IntKind.wrap_i64]; omega
      have hwd : IntKind.i64.wrap (dd : Int) = (dd : Int) := by rw [IntKind.wrap_i64]; omega
      have htm : (u : Int).tmod (m : Int) = (rr : Int) := by rw [Int.tmod_eq_emod_of_nonneg (by omega)]; exact hr
      obtain ⟨fn, tmps, assign, body, hy, hR⟩ := hyy
      gi_wp2
      refine wpIn_mono (yreg F n hro hn _ (fun bb W' => (bb = true ∧ J (turnsTo q m k hm ++ [turnAt q m k hm]) W' ∧ Keep2 Bq Bn wr.drew W') ∨ (bb = false ∧ Jx (turnsTo q m k hm ++ [turnAt q m k hm]) W')) wr l Bs Bq Bn q m k u dd rr size _ _ _ _ _ _ _ _ _ _ _ _ _ _ _ dq dn hm hm2 hu8 hu hd hwu hwd htm hr hdl fn tmps assign body hy (RoundIn.mono hR (fun e W' h => yes_or_no h)) ?_) OnlyY.imp
      rintro bb W3 hbb
      rw [← turnsTo_succ] at hbb
      have hbb' := Lib.hid hbb
      clear hbb
      cases bb
      · obtain ⟨hf, _⟩ | ⟨_, hj⟩ := hbb'.out
        · cases hf
        gi_wp2
        refine bodyPost_ret (results_none rfl _ _ _) rfl ?_
        exact ⟨⟨_, rfl⟩, .inr ⟨_, turnsTo_prefix q m (k + 1) size hm (by omega), hj⟩⟩
      · obtain ⟨_, hj, hkk⟩ | ⟨hf, _⟩ := hbb'.out
        · gi_wp2
          exact ⟨⟨k + 1, by omega, by rw [Int.natCast_succ], hj, hB.trans hkk⟩, by show size - ((k : Int) + 1).toNat < size - ((k : Int)).toNat; omega⟩
        · cases hf
    · obtain rfl : k = size := by omega
      gi_wp2
      go_end0
      exact ⟨⟨_, rfl⟩, .inl ⟨_, rfl, hJ⟩⟩

/-- The iterator's maker: three boxes. -/
theorem turns_in (F : Fence) (n : Nat) (h55 : F.fn 55) (hro : F.round = none) (q size m : Int) (w : World) :
    CallsIn F n Try.prog 55 #[.int .i64 q, .int .i64 size, .int .i64 m] w fun e w' => e = .returned (.func (.func 60) #[] #[.pointer (some ⟨w.heap.size + 1, 0, none⟩), .pointer (some ⟨w.heap.size, 0, none⟩), .pointer (some ⟨w.heap.size + 1 + 1, 0, none⟩)]) ∧
      w' = ((w.alloc (.cells #[.int .i64 q] 3)).alloc (.cells #[.int .i64 size] 3)).alloc (.cells #[.int .i64 m] 3) := by
  refine callsIn_of_wp Try.func55 rfl h55 ?_ hro
  simp only [Try.ntmps55, List.size_toArray, List.length_cons, List.length_nil, Nat.reduceAdd, Nat.reduceSub, Array.replicate_succ, Array.replicate_zero, List.push_toArray, List.append_toArray, List.nil_append, List.cons_append]
  gi_wp2
  go_ret
  exact ⟨rfl, rfl⟩

theorem turns_stops (F : Fence) (n : Nat) (h60 : F.fn 60) (hro : F.round = none) (hn : 1 ≤ n) (Bs Bq Bn q size m : Nat) (hm : 1 ≤ m) (hm2 : m ≤ 4096) (hq : q + size ≤ 8191) (w : World)
    (bs : Bs < w.heap.size) (bq : Bq < w.heap.size) (bn : Bn < w.heap.size)
    (hs : w.cell? ⟨Bs, 0, none⟩ = some (.int .i64 (size : Int))) (hqc : w.cell? ⟨Bq, 0, none⟩ = some (.int .i64 (q : Int))) (hnc : w.cell? ⟨Bn, 0, none⟩ = some (.int .i64 (m : Int))) :
    SeqStopsK F n Try.prog 60 #[.pointer (some ⟨Bs, 0, none⟩), .pointer (some ⟨Bq, 0, none⟩), .pointer (some ⟨Bn, 0, none⟩)] (fun x : Turn m => #[.agg #[.int .i64 (x.1.1 : Int), .int .i64 (x.1.2 : Int)]]) (Keep2 Bq Bn) (fun ys => ys = turnsTo q m size hm) (fun pre => pre <+: turnsTo q m size hm) size w := fun l J Jx W hW hJ _ hY h0 =>
  turns1_in F n h60 hro hn l Bs Bq Bn q size m hm hm2 hq J Jx hY W ((hW.cell (p := ⟨Bs, 0, none⟩) (bs)).trans hs) ((hW.cell (p := ⟨Bq, 0, none⟩) (bq)).trans hqc) ((hW.cell (p := ⟨Bn, 0, none⟩) (bn)).trans hnc) hJ h0

end Go.Proofs.Ytcojiienmmmihaa
