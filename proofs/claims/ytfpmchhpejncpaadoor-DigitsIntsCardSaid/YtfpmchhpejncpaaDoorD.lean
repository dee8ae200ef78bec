/- Digits: a number's text, of the program. -/
import Derived.Test.YtfpmchhpejncpaaDoorC
import Derived.Laws.AppendOwn
import Derived.Laws.OwnMore
import Derived.Maps.AppendAt
import Derived.WalkSmall
namespace Go.Proofs.YtfpmchhpejncpaaDoor
open Go.RowKit
set_option maxRecDepth 100000
set_option linter.unusedVariables false

theorem info5 : (Tryd.prog.info? 5).map (fun i => (i.zero, i.size, i.bytes)) = some (some (.int .u8 0), 1, 1) := by kernel_rfl
theorem wp_append_run {P : Program} {o : Oper} {a : Act} {w w4 : World} {K : Act → World → Prop} {Q : Exit → Act → World → Prop} {s x : Operand} {t : TypeId} {v y r : Value}
    (hop : o.op = Op.call { callee := Callee.builtin Builtin.append, args := #[s, x], argTypes := #[t, t] }) (hs : a.eval s = v) (hx : a.eval x = y)
    (hrun : (Builtin.append_ #[t, t] o.type #[v, y]).run P w = .ok r w4) (hK : K (a.put o.dst r) w4) : Oper.wp P o a w K Q := by
  unfold Oper.wp
  simp [execOp, hop, resolve, invoke, builtin, hs, hx, hrun, Result.andThen]
  exact hK
theorem wpList_append_run {P : Program} {ops : Array Oper} {rest : List Oper} {o : Oper} {a : Act} {w w4 : World} {Q : Exit → Act → World → Prop} {s x : Operand} {t : TypeId} {v y r : Value} (hgd : o.guard = none)
    (hop : o.op = Op.call { callee := Callee.builtin Builtin.append, args := #[s, x], argTypes := #[t, t] }) (hs : a.eval s = v) (hx : a.eval x = y)
    (hrun : (Builtin.append_ #[t, t] o.type #[v, y]).run P w = .ok r w4) (hK : wpList P ops Q rest (a.put o.dst r) w4) : wpList P ops Q (o :: rest) a w :=
  wpList_plain hgd fun _ hk => wp_append_run hop hs hx hrun (hk _ _ hK)
theorem row_slice {w : World} {base e size n : Nat} {v : Value} {xs : List Value} (h : w.ownsRow base e size v n xs) : ∃ ou cu, v = .slice ou n cu := by
  rcases h.2 with ⟨rfl, rfl⟩ | ⟨g, cap, cur, rfl, _⟩
  · exact ⟨none, 0, rfl⟩
  · exact ⟨_, cap, rfl⟩
/-- A slice of bytes of one's own. -/
def Owns (w : World) (base : Nat) (v : Value) (l : List UInt8) : Prop := w.ownsRow base 5 1 v l.length (Lib.byteCells l)
theorem Owns.nil (w : World) (base : Nat) : Owns w base (.slice none 0 0) [] := World.ownsRow_nil _ _ _ _
theorem push_run {w : World} {base : Nat} {v : Value} {l : List UInt8} (h : Owns w base v l) (hb : base ≤ w.heap.size) (hl : l.length ≤ 1000) (x : UInt8) (c : Int) (hc : c = (x.toNat : Int)) :
    ∃ g cap w', (Builtin.append_ #[44, 44] 44 #[v, .slice (some ⟨w.heap.size, 0, none⟩) 1 1]).run Tryd.prog (w.alloc (.cells #[.int .u8 c] 5)) = .ok (.slice (some ⟨g, 0, none⟩) (l.length + 1) cap) w' ∧ Owns w' base (.slice (some ⟨g, 0, none⟩) (l.length + 1) cap) (l ++ [x]) ∧ Below base w w' := by
  obtain ⟨i5, gi, gz0, gz1, gz2⟩ := info_parts info5
  have hal : Below base w (w.alloc (.cells #[.int .u8 c] 5)) := (Below.refl _ w).alloc hb _
  obtain ⟨v', w', hr, own, hg, -⟩ := run_append_own (w.alloc (.cells #[.int .u8 c] 5)) base 44 44 5 i5 (.int .u8 0) 1 1 Tryd.underlying44 gi gz0 gz1 gz2 rfl (by decide) v l.length (Lib.byteCells l) (World.ownsRow.alloc h _) ⟨w.heap.size, 0, none⟩ 1 1 [.int .u8 c] rfl
    (fun j u hu => by
      match j, hu with
      | 0, hu => simp at hu; subst hu; simp [go_sem, Addr.add]
      | j + 1, hu => simp at hu) (fun u hu => by simp at hu; subst hu; rfl) (by simp only [maxLen]; omega) (by omega) (by rw [World.size_alloc]; omega)
  obtain ⟨g, cap, rfl⟩ : ∃ g cap, v' = .slice (some ⟨g, 0, none⟩) (l.length + 1) cap := by
    rcases own.2 with ⟨_, h0⟩ | ⟨g, cap, cur, e, _⟩
    · omega
    · exact ⟨g, cap, e⟩
  refine ⟨g, cap, w', hr, ?_, hal.grown hg (by rw [World.size_alloc]; omega) (fun k e => (World.ownsRow.lt h k e).1)⟩
  unfold Owns
  have e : Lib.byteCells (l ++ [x]) = Lib.byteCells l ++ [.int .u8 c] := by simp [Lib.byteCells, hc]
  rw [e, List.length_append]
  exact own
theorem conv_owns {w : World} {base : Nat} {v : Value} {l : List UInt8} (h : Owns w base v l) : (convert 44 9 v).run Tryd.prog w = .ok (.string ⟨l.toArray⟩) w := by
  rcases h.2 with ⟨rfl, h0⟩ | ⟨g, cap, cur, rfl, _⟩
  · have : l = [] := List.eq_nil_of_length_eq_zero h0
    subst this
    exact Lib.run_convert_nil_bytes (P := Tryd.prog) w 44 9 5 0 Tryd.underlying44 Tryd.underlying5 Tryd.underlying9
  · refine run_convert_bytes_back (P := Tryd.prog) w 44 9 5 ⟨g, 0, none⟩ cap l Tryd.underlying44 Tryd.underlying5 Tryd.underlying9 (fun j hj => ?_)
    refine World.ownsRow.cells h (g := g) rfl j _ ?_
    simp [Lib.byteCells, hj]

def Tab (w : World) : Prop := Lib.TabIs Tryd.prog w "internal/strconv.uint64pow10" .u64 Lib.pow10Tab
theorem Tab.below {w w' : World} (h : Tab w) {B : Nat} (hb : Below B w w') (hB : w.heap.size ≤ B) : Tab w' := Lib.tabBelow_of_tabIs h w' (hb.mono hB)
set_option maxHeartbeats 1000000 in
theorem AppendUint_any (B u : Nat) (hu : u < 18446744073709551616) (v : Value) (l : List UInt8) (w : World) (h : Owns w B v l) (hB : B ≤ w.heap.size) (hl : l.length ≤ 1000) (ht : Tab w) :
    Calls Tryd.prog 20 #[v, .int .u64 (u : Int), .int .i64 10] w fun e w' => ∃ oa cap, e = .returned (.slice oa (l.length + (Lib.decDigits u).length) cap) ∧ Owns w' B (.slice oa (l.length + (Lib.decDigits u).length) cap) (l ++ Lib.decDigits u) ∧ Below B w w' := by
  have hc := Tryd.internal_strconv_AppendUint_10 B l.length u hu v (Lib.byteCells l) w h hB (by omega) ht
  have HC := Lib.hid hc
  have HD : ∃ D, D = Lib.decDigits u := ⟨_, rfl⟩
  obtain ⟨D, hD⟩ := HD
  rw [← hD] at HC ⊢
  clear hc hD h ht
  go_enter Tryd.func20, Tryd.ntmps20
  go_wp2_with fail
  refine HC.out.mono ?_
  rintro e w1 ⟨v1, rfl, hown, hb, -⟩
  obtain ⟨oa, cap, rfl⟩ := row_slice hown
  have HO := Lib.hid hown; have HB := Lib.hid hb
  clear hown hb
  go_wp2_with fail
  go_ret
  refine ⟨oa, cap, rfl, ?_, HB.out⟩
  unfold Owns
  rw [List.length_append, show Lib.byteCells (l ++ D) = Lib.byteCells l ++ Lib.byteCells D by simp [Lib.byteCells]]
  exact HO.out
theorem maskN (a : Nat) (ha : a < 18446744073709551616) : bits .and .u64 (a : Int) 4294967295 = ((a % 4294967296 : Nat) : Int) := by
  have h := bits_and_u64_nat a 4294967295 ha (by omega)
  have e : a &&& 4294967295 = a % 4294967296 := Nat.and_two_pow_sub_one_eq_mod a 32
  rw [e] at h
  exact h
def sliceLen : Value → Nat
  | .slice _ n _ => n
  | _ => 0
set_option maxHeartbeats 8000000 in
theorem Text_any (below : Bool) (a : Int) (m : Nat) (ha : a = if below = true then -(m : Int) else m) (hm : m ≤ 9223372036854775808) (hb : below = true → 1 ≤ m) (hp : below = false → m ≤ 9223372036854775807) (w : World) (ht : Tab w) :
    Calls Tryd.prog 11 #[.int .i64 a] w fun e w' => e = .returned (.string ⟨(textL below m).toArray⟩) ∧ Below w.heap.size w w' := by
  obtain ⟨B, hB⟩ : ∃ B, B = w.heap.size := ⟨_, rfl⟩
  rw [← hB]
  have HT0 := Lib.hid ht
  have d1 : decide (a < 0) = below := by
    cases below with
    | true => rw [ha]; have := hb rfl; simp; omega
    | false => rw [ha]; simp
  obtain ⟨c, hc⟩ : ∃ c : Nat, IntKind.u64.wrap a = (c : Int) ∧ (below = false → c = m) ∧ (below = true → IntKind.u64.wrap (-(c : Int)) = (m : Int)) := by
    cases below with
    | true =>
      have := hb rfl
      rw [ha]
      refine ⟨18446744073709551616 - m, ?_, fun h => (by cases h), fun _ => ?_⟩
      · simp only [if_true]; rw [IntKind.wrap_u64]; omega
      · rw [IntKind.wrap_u64]; omega
    | false =>
      have := hp rfl
      rw [ha]
      exact ⟨m, by simp only [Bool.false_eq_true, if_false]; rw [IntKind.wrap_u64]; omega, fun _ => rfl, fun h => (by cases h)⟩
  obtain ⟨hi, hhi⟩ : ∃ hi, hi = m / 4294967296 := ⟨_, rfl⟩
  obtain ⟨lo, hlo⟩ : ∃ lo, lo = m % 4294967296 := ⟨_, rfl⟩
  have s1 : (m : Int) / 4294967296 = (hi : Int) := by omega
  have s2 := maskN m (by omega)
  rw [← hlo] at s2
  have hdl := dec_len 10 hi (by omega) (by omega)
  have HA := Lib.hid (fun v l W (ho : Owns W B v l) (hl : l.length ≤ 1000) (hW : B ≤ W.heap.size) (hT : Tab W) => AppendUint_any B hi (by omega) v l W ho hW hl hT)
  obtain ⟨D, hD⟩ : ∃ D, D = Lib.decDigits hi := ⟨_, rfl⟩
  rw [← hD] at hdl HA
  have hT : textL below m = (if below = true then [45] else []) ++ D ++ (if lo = 0 then [] else 46 :: frac 32 lo) := by
    unfold textL; rw [← hhi, ← hlo, hD]
  obtain ⟨T, hTT⟩ : ∃ T, T = textL below m := ⟨_, rfl⟩
  rw [← hTT] at hT ⊢
  have HT := Lib.hid hT
  have hlo2 : lo < 4294967296 := by omega
  clear hTT ha hb hp hhi hlo hD hT ht
  obtain ⟨gm, cm, wm, hrm, hom, hbm⟩ := push_run (Owns.nil w B) (by omega) (by simp) 45 45 rfl
  have HOM := Lib.hid hom; have HBM := Lib.hid hbm
  clear hom hbm
  cases below with
  | true =>
    obtain ⟨hc1, -, hc2⟩ := hc
    have hc2 := hc2 rfl
    go_enter Tryd.func11, Tryd.ntmps11
    go_wp2_with (at_builtin; refine wpList_append_run rfl rfl (s := .tmp 10) (x := .tmp 11) (t := 44) rfl rfl hrm ?_)
    refine (HA.out _ _ _ HOM.out (by simp) (Nat.le_trans (by omega) HBM.out.size) (HT0.out.below HBM.out (by omega))).mono ?_
    rintro e w1 ⟨oa, cap, rfl, hown, hb⟩
    have hbl := HBM.out.trans hb
    have hsz : B ≤ w1.heap.size := Nat.le_trans (by omega) hbl.size
    have hlen : ([45] ++ D : List UInt8).length ≤ 1000 := by simp; omega
    have hown : Owns w1 B (.slice oa (1 + D.length) cap) ([45] ++ D) := hown
    have hcv := conv_owns hown
    have HCV : Hid ((convert 44 9 (.slice oa (1 + D.length) cap)).run Tryd.prog w1 = .ok (.string ⟨([45] ++ D).toArray⟩) w1) := Lib.hid hcv
    clear hcv
    clear hb hc1 hc2 hrm
    by_cases hz : lo = 0
    · subst hz
      have hcv := HCV.out
      have HBL := Lib.hid hbl
      have s2' : bits BinOp.and IntKind.u64 (m : Int) 4294967295 = 0 := s2
      clear hbl hown s2
      go_wp2_with fail
      refine wp_loop_rounds 1 ?_
      rw [rounds_succ]
      go_wp2_with fail
      go_ret
      exact ⟨by rw [HT.out]; simp, HBL.out⟩
    · have z3 : 0 < lo := by omega
      obtain ⟨F, hF⟩ : ∃ F, F = frac 32 lo := ⟨_, rfl⟩
      rw [if_neg hz, ← hF] at HT
      have HF := Lib.hid hF
      clear hz hF
      obtain ⟨gp, cp, wp, hrp, hop, hbp⟩ := push_run hown hsz hlen 46 46 rfl
      have HOP := Lib.hid hop; have HBP := Lib.hid (hbl.trans hbp)
      clear hown hop hbp hbl hsz hlen
      go_wp2_with (at_builtin; refine wpList_append_run rfl rfl (s := .tmp 23) (x := .tmp 24) (t := 44) rfl rfl hrp ?_)
      have HS2 := Lib.hid s2
      clear s1 s2 z3 d1
      go_loopw [3, 5] (fun out rest wr => ∃ (l : List UInt8) (j r : Nat), Owns wr B out l ∧ rest = .int .u64 (r : Int) ∧ Rest j r ∧ l.length ≤ 20 + j ∧ l ++ frac (32 - j) r = T ∧ Below B w wr) (fun out _ _ => 200 - sliceLen out)
      case atStart => exact ⟨_, 0, lo, HOP.out, by first | rfl | rw [HS2.out], Rest.start hlo2, by simp; omega, by rw [HT.out, HF.out]; simp, HBP.out⟩
      case round =>
        obtain ⟨l, j, r, hown, rfl, hrest, hsz, htxt, hbl⟩ := hrel
        have HR := Lib.hid hrest; have HTX := Lib.hid htxt; have HBL := Lib.hid hbl
        have hj := hrest.le
        have hrl := hrest.lt
        clear hrest htxt hbl
        obtain ⟨oa, cap, rfl⟩ := row_slice hown
        have HOW := Lib.hid hown
        have hconv := conv_owns hown
        clear hown
        by_cases hr : r = 0
        · subst hr
          have z1 : decide (0 < ((0 : Nat) : Int)) = false := by decide
          go_wp2_with fail
          go_ret
          refine ⟨?_, HBL.out⟩
          have := HTX.out
          rw [frac_zero, List.append_nil] at this
          rw [← this]
          rfl
        · have z1 : 0 < r := by omega
          have HN := Lib.hid (HR.out.next hr); have HM := Lib.hid (HR.out.more hr); have HST := Lib.hid (frac_step HR.out hr)
          obtain ⟨d, hd⟩ : ∃ d, d = 10 * r / 4294967296 := ⟨_, rfl⟩
          obtain ⟨r2, hr2⟩ : ∃ r2, r2 = 10 * r % 4294967296 := ⟨_, rfl⟩
          have hmask := maskN (10 * r) (by omega)
          rw [← hr2] at HN HST hmask
          rw [← hd] at HST
          have hd10 : d < 10 := by omega
          have t1 : IntKind.u64.wrap ((r : Int) * 10) = (10 * r : Nat) := by rw [IntKind.wrap_u64]; omega
          have t2 : ((10 * r : Nat) : Int) / 4294967296 = (d : Int) := by omega
          have hBs : B ≤ wr.heap.size := Nat.le_trans (by rw [hB]; exact Nat.le_refl _) HBL.out.size
          obtain ⟨g2, c2, w2, hr3, ho3, hb3⟩ := push_run HOW.out hBs (by omega) (dch d) (48 + (d : Int)) (dch_nat hd10).symm
          have HO3 := Lib.hid ho3; have HB3 := Lib.hid hb3
          clear hr hd hr2 ho3 hb3 hconv
          obtain ⟨ten, hten⟩ : ∃ ten, ten = 10 * r := ⟨_, rfl⟩
          rw [← hten] at t1 t2 hmask
          have HTEN := Lib.hid hten
          clear hten
          go_wp2_with (at_builtin; refine wpList_append_run rfl rfl (s := .tmp 30) (x := .tmp 35) (t := 44) rfl rfl hr3 ?_)
          go_roundw
          case rel => exact ⟨_, j + 1, r2, HO3.out, rfl, HN.out, by simp; omega, by rw [← HTX.out, HST.out]; simp, HBL.out.trans HB3.out⟩
          case measure => simp [sliceLen]; omega
  | false =>
    obtain ⟨hc1, hc2, -⟩ := hc
    have hc2 := hc2 rfl
    have hc3 := hc2.symm
    subst hc3
    clear hc2 hrm HOM HBM
    go_enter Tryd.func11, Tryd.ntmps11
    go_wp2_with fail
    refine (HA.out _ _ _ (Owns.nil w B) (by simp) (by omega) HT0.out).mono ?_
    rintro e w1 ⟨oa, cap, rfl, hown, hb⟩
    have hbl := hb
    have hsz : B ≤ w1.heap.size := Nat.le_trans (by omega) hbl.size
    have hlen : (D : List UInt8).length ≤ 1000 := by omega
    have hown : Owns w1 B (.slice oa D.length cap) D := by simpa using hown
    have HCV : Hid ((convert 44 9 (.slice oa D.length cap)).run Tryd.prog w1 = .ok (.string ⟨D.toArray⟩) w1) := Lib.hid (conv_owns hown)
    clear hb hc1
    by_cases hz : lo = 0
    · subst hz
      have hcv := HCV.out
      have HBL := Lib.hid hbl
      have s2' : bits BinOp.and IntKind.u64 (m : Int) 4294967295 = 0 := s2
      clear hbl hown s2
      go_wp2_with fail
      refine wp_loop_rounds 1 ?_
      rw [rounds_succ]
      go_wp2_with fail
      go_ret
      exact ⟨by rw [HT.out]; simp, HBL.out⟩
    · have z3 : 0 < lo := by omega
      obtain ⟨F, hF⟩ : ∃ F, F = frac 32 lo := ⟨_, rfl⟩
      rw [if_neg hz, ← hF] at HT
      have HF := Lib.hid hF
      clear hz hF
      obtain ⟨gp, cp, wp, hrp, hop, hbp⟩ := push_run hown hsz hlen 46 46 rfl
      have HOP := Lib.hid hop; have HBP := Lib.hid (hbl.trans hbp)
      clear hown hop hbp hbl hsz hlen
      go_wp2_with (at_builtin; refine wpList_append_run rfl rfl (s := .tmp 23) (x := .tmp 24) (t := 44) rfl rfl hrp ?_)
      have HS2 := Lib.hid s2
      clear s1 s2 z3 d1
      go_loopw [3, 5] (fun out rest wr => ∃ (l : List UInt8) (j r : Nat), Owns wr B out l ∧ rest = .int .u64 (r : Int) ∧ Rest j r ∧ l.length ≤ 20 + j ∧ l ++ frac (32 - j) r = T ∧ Below B w wr) (fun out _ _ => 200 - sliceLen out)
      case atStart => exact ⟨_, 0, lo, HOP.out, by first | rfl | rw [HS2.out], Rest.start hlo2, by simp; omega, by rw [HT.out, HF.out]; simp, HBP.out⟩
      case round =>
        obtain ⟨l, j, r, hown, rfl, hrest, hsz, htxt, hbl⟩ := hrel
        have HR := Lib.hid hrest; have HTX := Lib.hid htxt; have HBL := Lib.hid hbl
        have hj := hrest.le
        have hrl := hrest.lt
        clear hrest htxt hbl
        obtain ⟨oa, cap, rfl⟩ := row_slice hown
        have HOW := Lib.hid hown
        have hconv := conv_owns hown
        clear hown
        by_cases hr : r = 0
        · subst hr
          have z1 : decide (0 < ((0 : Nat) : Int)) = false := by decide
          go_wp2_with fail
          go_ret
          refine ⟨?_, HBL.out⟩
          have := HTX.out
          rw [frac_zero, List.append_nil] at this
          rw [← this]
          rfl
        · have z1 : 0 < r := by omega
          have HN := Lib.hid (HR.out.next hr); have HM := Lib.hid (HR.out.more hr); have HST := Lib.hid (frac_step HR.out hr)
          obtain ⟨d, hd⟩ : ∃ d, d = 10 * r / 4294967296 := ⟨_, rfl⟩
          obtain ⟨r2, hr2⟩ : ∃ r2, r2 = 10 * r % 4294967296 := ⟨_, rfl⟩
          have hmask := maskN (10 * r) (by omega)
          rw [← hr2] at HN HST hmask
          rw [← hd] at HST
          have hd10 : d < 10 := by omega
          have t1 : IntKind.u64.wrap ((r : Int) * 10) = (10 * r : Nat) := by rw [IntKind.wrap_u64]; omega
          have t2 : ((10 * r : Nat) : Int) / 4294967296 = (d : Int) := by omega
          have hBs : B ≤ wr.heap.size := Nat.le_trans (by rw [hB]; exact Nat.le_refl _) HBL.out.size
          obtain ⟨g2, c2, w2, hr3, ho3, hb3⟩ := push_run HOW.out hBs (by omega) (dch d) (48 + (d : Int)) (dch_nat hd10).symm
          have HO3 := Lib.hid ho3; have HB3 := Lib.hid hb3
          clear hr hd hr2 ho3 hb3 hconv
          obtain ⟨ten, hten⟩ : ∃ ten, ten = 10 * r := ⟨_, rfl⟩
          rw [← hten] at t1 t2 hmask
          have HTEN := Lib.hid hten
          clear hten
          go_wp2_with (at_builtin; refine wpList_append_run rfl rfl (s := .tmp 30) (x := .tmp 35) (t := 44) rfl rfl hr3 ?_)
          go_roundw
          case rel => exact ⟨_, j + 1, r2, HO3.out, rfl, HN.out, by simp; omega, by rw [← HTX.out, HST.out]; simp, HBL.out.trans HB3.out⟩
          case measure => simp [sliceLen]; omega
end Go.Proofs.YtfpmchhpejncpaaDoor
