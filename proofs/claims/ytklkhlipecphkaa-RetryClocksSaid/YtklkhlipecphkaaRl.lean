/- Retry: told: both clocks say the same. -/
import Derived.Test.YtklkhlipecphkaaRk
import Derived.Deep.QuietTactic
import Derived.BigQuiet
namespace Go.Proofs.Ytklkhlipecphkaa
open Go.RowKit Go.Joins Go.Maps
set_option maxRecDepth 100000
set_option linter.unusedVariables false

/-- A world in which all that lay in W0 below block B lies. -/
structure Cls (B : Nat) (W0 : World) where
  w : World
  below : Below B W0 w
  size : B ≤ w.heap.size
theorem wp_region_calm {P : Program} {id : Nat} {Q : Exit → Act → World → Prop} {a : Act} {w : World} {l : List Oper} {B : Nat} {W0 : World} (hm : P.follows .mixedOrders = true) (hB : Region.lexB .any l.toArray = true)
    (h0 : Below B W0 w) (hs : B ≤ w.heap.size)
    (h : wpQuiet P l.toArray (fun w' => ∃ x : Cls B W0, w' = x.w) (fun a' => ∀ w', (∃ x : Cls B W0, w' = x.w) → Q .normal a' w') l a) : (Code.region id l.toArray true).wp P Q a w :=
  wp_region_quiet (C := fun w' => ∃ x : Cls B W0, w' = x.w) hm hB ⟨⟨_, Below.drew h0, hs⟩, rfl⟩ (by simpa using h)
theorem calm {P : Program} {B : Nat} {W0 : World} {f : FuncId} {args : Array Value} {v : Value} {x : Cls B W0} (h : Calls P f args x.w fun e w' => e = .returned v ∧ Below x.w.heap.size x.w w') :
    Calls P f args x.w (fun e w'' => e = .returned v ∧ ∃ x' : Cls B W0, w'' = x'.w) :=
  h.mono fun _ w' ⟨he, hb⟩ => ⟨he, ⟨w', x.below.trans (hb.mono x.size), Nat.le_trans x.size hb.size⟩, rfl⟩
theorem calm_same {P : Program} {B : Nat} {W0 : World} {f : FuncId} {args : Array Value} {v : Value} {x : Cls B W0} (h : Calls P f args x.w fun e w' => e = .returned v ∧ w' = x.w) :
    Calls P f args x.w (fun e w'' => e = .returned v ∧ ∃ x' : Cls B W0, w'' = x'.w) :=
  h.mono fun _ w' ⟨he, hb⟩ => ⟨he, x, hb⟩

def LInv (L : List Tm) (k : Nat) (least : Int) (any : Bool) : Prop :=
  (any = false ∧ least = 0 ∧ k = 0) ∨ (any = true ∧ 0 < k ∧ (∃ j, j < k ∧ (tm L j).2.1 = least) ∧ ∀ j, j < k → least ≤ (tm L j).2.1)
theorem LInv.step {L : List Tm} {k : Nat} {least : Int} {any : Bool} (h : LInv L k least any) : LInv L (k + 1) (if (!any || decide ((tm L k).2.1 < least)) = true then (tm L k).2.1 else least) true := by
  rcases h with ⟨rfl, rfl, rfl⟩ | ⟨rfl, hk, ⟨j0, hj0, he0⟩, hall⟩
  · refine .inr ⟨rfl, by omega, ⟨0, by omega, by simp⟩, fun j hj => ?_⟩
    obtain rfl : j = 0 := by omega
    simp
  · by_cases hlt : (tm L k).2.1 < least
    · refine .inr ⟨rfl, by omega, ⟨k, by omega, by simp [hlt]⟩, fun j hj => ?_⟩
      rcases Nat.lt_or_ge j k with h | h
      · have := hall j h; simp [hlt]; omega
      · obtain rfl : j = k := by omega
        simp [hlt]
    · refine .inr ⟨rfl, by omega, ⟨j0, by omega, by simp [hlt, he0]⟩, fun j hj => ?_⟩
      rcases Nat.lt_or_ge j k with h | h
      · have := hall j h; simp [hlt]; omega
      · obtain rfl : j = k := by omega
        simp [hlt]; omega

/-- The program's timers are the document's. -/
structure Rel (f : Int → Option (Int × Int)) (L : List Tm) (K : Nat) : Prop where
  mem : ∀ i, i < L.length → f (tm L i).1 = some (tm L i).2
  out : ∀ x, (∀ i, i < L.length → (tm L i).1 ≠ x) → f x = none
  inj : ∀ i j, i < L.length → j < L.length → (tm L i).1 = (tm L j).1 → i = j
  wf : ∀ i, i < L.length → (Lit.int .i64 (tm L i).1).wf = true
  tr : ∀ i, i < L.length → ∃ n : Nat, (tm L i).2.2 = (n : Int) ∧ n ≤ K
theorem Rel.find {f : Int → Option (Int × Int)} {L : List Tm} {K : Nat} (h : Rel f L K) {x : Int} {p : Int × Int} (hf : f x = some p) : ∃ i, i < L.length ∧ (tm L i).1 = x ∧ (tm L i).2 = p := by
  rcases Classical.em (∃ i, i < L.length ∧ (tm L i).1 = x) with ⟨i, hi, he⟩ | hno
  · refine ⟨i, hi, he, ?_⟩
    have := h.mem i hi
    rw [he, hf] at this
    exact (Option.some.inj this).symm
  · rw [h.out x (fun i hi he => hno ⟨i, hi, he⟩)] at hf
    cases hf
theorem next_least {f : Int → Option (Int × Int)} {L : List Tm} {K : Nat} {at_ least : Int} {ok any : Bool} (h : Rel f L K) (hn : IsNext f at_ ok) (hl : LInv L L.length least any) : any = ok ∧ least = at_ := by
  rcases hn with ⟨rfl, rfl, hno⟩ | ⟨rfl, ⟨z, t, hz, hf⟩, hmin⟩
  · rcases hl with ⟨rfl, rfl, _⟩ | ⟨rfl, hk, _, _⟩
    · exact ⟨rfl, rfl⟩
    · have h1 := h.mem 0 hk
      rw [hno _ (h.wf 0 hk)] at h1
      cases h1
  · obtain ⟨i, hi, he, hp⟩ := h.find hf
    rcases hl with ⟨rfl, rfl, h0⟩ | ⟨rfl, hk, ⟨j, hj, hje⟩, hall⟩
    · omega
    · refine ⟨rfl, ?_⟩
      have h1 := hall i hi
      rw [hp] at h1
      have h2 := hmin _ _ (h.wf j hj) (h.mem j hj)
      rw [hje] at h2
      dsimp only at h1
      omega

set_option maxHeartbeats 8000000 in
theorem told_any {N B Mb N' B' K n : Nat} {v : Value} {base most now base' most' : Int} {f : Int → Option (Int × Int)} {L : List Tm} {w : World} (h : Clk N B Mb base most now f n w) (hb : 0 < base) (hr : Ref N' B' v base' most' now L w) (hl : L.length ≤ 1000) (hrel : Rel f L K)
    {x : Int} (hx : (Lit.int .i64 x).wf = true) :
    Calls Try.prog 37 #[.pointer (some ⟨B, 0, none⟩), .pointer (some ⟨B', 0, none⟩), .int .i64 x] w (Yes w) := by
  have HK := Lib.hid h
  have HR := Lib.hid hr
  have HREL := Lib.hid hrel
  obtain ⟨oa, cap, rfl, hc⟩ := hr.slice
  have HC := Lib.hid hc
  clear h hr hrel hc
  obtain ⟨m, hm⟩ : ∃ m, m = L.length := ⟨_, rfl⟩
  have HM := Lib.hid hm
  rw [← hm] at HC hl HR
  clear hm
  go_enter Try.func37, Try.ntmps37
  go_wp2_with fail
  refine (Next_yes HK.out hb).mono ?_
  rintro e w2 ⟨at_, ok, rfl, hnx, hb2⟩
  have c3 := (HR.out.keeps (Keeps.of_below hb2)).c3
  have HNX := Lib.hid hnx
  have HB2 := Lib.hid hb2
  clear hnx hb2
  go_wp2_with fail
  go_loopw [9, 10, 12, 26] (fun l a _ i wr => ∃ (k : Nat) (least : Int) (any : Bool), k ≤ m ∧ i = .int .i64 (k : Int) ∧ l = .int .i64 least ∧ a = .bool any ∧ LInv L k least any ∧ Below w2.heap.size w2 wr) (fun _ _ _ i _ => m - (intOf i).toNat)
  case atStart => exact ⟨0, 0, false, Nat.zero_le _, rfl, rfl, rfl, .inl ⟨rfl, rfl, rfl⟩, Below.refl _ _⟩
  case round =>
    obtain ⟨k, least, any, hk, rfl, rfl, rfl, hli, hbl⟩ := hrel
    have HLI := Lib.hid hli
    have hbw : Below w.heap.size w wr := HB2.out.trans (hbl.mono HB2.out.size)
    have HBL := Lib.hid hbl
    have HBW := Lib.hid hbw
    clear hli hbl hbw
    by_cases hlt : k < m
    · obtain ⟨g, rfl, y0, y1, y2⟩ := HC.out k hlt
      have x0 := (HBW.out.cell (World.block_lt_of_cell? _ _ y0)).trans y0
      have x1 := (HBW.out.cell (World.block_lt_of_cell? _ _ y1)).trans y1
      have x2 := (HBW.out.cell (World.block_lt_of_cell? _ _ y2)).trans y2
      clear y0 y1 y2
      have hst := HLI.out.step
      obtain ⟨t, ht⟩ : ∃ t, t = tm L k := ⟨_, rfl⟩
      rw [← ht] at x0 x1 x2 hst
      clear ht
      obtain ⟨t0, t1, t2⟩ := t
      dsimp only at x0 x1 x2 hst
      have hbl2 := HBL.out.alloc HBL.out.size (Obj.cells #[.int .i64 t0, .int .i64 t1, .int .i64 t2] 100)
      have H2 := Lib.hid hbl2
      clear hbl2
      cases any with
      | false =>
        have H1 := Lib.hid hst
        clear hst
        go_wp2_with fail
        go_roundw
        case rel => exact ⟨k + 1, _, _, by omega, by go_num, rfl, rfl, H1.out, H2.out⟩
        case measure => simp [intOf]; omega
      | true =>
        by_cases hc : t1 < least
        · have e1 : decide (t1 < least) = true := decide_eq_true hc
          rw [e1] at hst
          have H1 := Lib.hid hst
          clear hst
          go_wp2_with fail
          go_roundw
          case rel => exact ⟨k + 1, _, _, by omega, by go_num, rfl, rfl, H1.out, H2.out⟩
          case measure => simp [intOf]; omega
        · have e1 : decide (t1 < least) = false := decide_eq_false hc
          rw [e1] at hst
          have H1 := Lib.hid hst
          clear hst
          go_wp2_with fail
          go_roundw
          case rel => exact ⟨k + 1, _, _, by omega, by go_num, rfl, rfl, H1.out, H2.out⟩
          case measure => simp [intOf]; omega
    · have hkm : k = L.length := by have := HM.out; omega
      have hnl := HLI.out
      rw [hkm] at hnl
      obtain ⟨rfl, rfl⟩ := next_least HREL.out HNX.out hnl
      clear hnl hkm
      have hrw := HR.out.keeps (Keeps.of_below HBW.out)
      have HRW := Lib.hid (show Ref N' B' (.slice oa L.length cap) base' most' now L wr from by rw [← HM.out]; exact hrw)
      have d3 := hrw.c3
      have d2 := hrw.c2
      clear hrw
      obtain ⟨V, rfl⟩ : ∃ V, V = wr := ⟨_, rfl⟩
      go_wp2_with fail
      refine (Find_any HRW.out x (by have := HM.out; omega)).mono ?_
      rintro e w3 ⟨hfind, rfl⟩
      have HKV := Lib.hid (HK.out.below HBW.out)
      have hne : Nonempty (Cls w3.heap.size w3) := ⟨⟨w3, Below.refl _ _, Nat.le_refl _⟩⟩
      have z2 : ∀ y : Cls w3.heap.size w3, y.w.cell? ⟨B', 2, none⟩ = some (.int .i64 now) := fun y => (y.below.cell (World.block_lt_of_cell? _ _ d2)).trans d2
      rcases hfind with ⟨i, hi, hei, _, rfl⟩ | ⟨hno, rfl⟩
      · have hfx : f x = some (tm L i).2 := by have := HREL.out.mem i hi; rw [hei] at this; exact this
        obtain ⟨g, rfl, y0, y1, y2⟩ := HC.out i (by have := HM.out; omega)
        have x1 := (HBW.out.cell (World.block_lt_of_cell? _ _ y1)).trans y1
        have x2 := (HBW.out.cell (World.block_lt_of_cell? _ _ y2)).trans y2
        clear y0 y1 y2
        obtain ⟨p, hp⟩ : ∃ p, p = (tm L i).2 := ⟨_, rfl⟩
        rw [← hp] at x1 x2 hfx
        clear hp hei
        obtain ⟨p1, p2⟩ := p
        dsimp only at x1 x2
        have him : i < m := by have := HM.out; omega
        have e1 : decide ((0 : Int) ≤ (i : Int)) = true := by simp
        have HKC : ∀ y : Cls w3.heap.size w3, Clk N B Mb base most now f n y.w := fun y => HKV.out.below y.below
        have NOWC := Lib.hid (fun y : Cls w3.heap.size w3 => Now_yes (HKC y) hb)
        have DUEC := Lib.hid (fun y : Cls w3.heap.size w3 => show Calls Try.prog 27 #[.pointer (some ⟨B, 0, none⟩), .int .i64 x] y.w fun e w' => e = .returned (.bool (decide (p1 ≤ now))) ∧ Below y.w.heap.size y.w w' from by have z := Due_yes (HKC y) hb hx; unfold dueB at z; rw [hfx] at z; exact z)
        have TRIC := Lib.hid (fun y : Cls w3.heap.size w3 => show Calls Try.prog 26 #[.pointer (some ⟨B, 0, none⟩), .int .i64 x] y.w fun e w' => e = .returned (.int .i64 p2) ∧ w' = y.w from by have z := Tries_yes (HKC y) hb hx; rw [hfx] at z; exact z)
        clear HKC hfx
        go_wp2_with fail
        go_region
        go_wp2_with fail
        refine wp_region_calm (B := w3.heap.size) (W0 := w3) (by kernel_rfl) (by kernel_rfl) (Below.refl _ _).drew (Nat.le_refl _) ?_
        repeat (go_big_quiet_step (first | (go_at_call 32; exact calm_same (NOWC.out _)) | (go_at_call 27; exact calm (DUEC.out _)) | (go_at_call 26; exact calm_same (TRIC.out _))))
        refine wpQuiet_nil ?_
        rintro w4 ⟨y, hy⟩
        have hb4 := y.below
        rw [← hy] at hb4
        clear hy
        go_wp2_with fail
        go_ret
        exact ⟨rfl, HBW.out.trans (hb4.mono HBW.out.size)⟩
      · have hfx : f x = none := HREL.out.out x hno
        have HKC : ∀ y : Cls w3.heap.size w3, Clk N B Mb base most now f n y.w := fun y => HKV.out.below y.below
        have NOWC := Lib.hid (fun y : Cls w3.heap.size w3 => Now_yes (HKC y) hb)
        have DUEC := Lib.hid (fun y : Cls w3.heap.size w3 => show Calls Try.prog 27 #[.pointer (some ⟨B, 0, none⟩), .int .i64 x] y.w fun e w' => e = .returned (.bool false) ∧ Below y.w.heap.size y.w w' from by have z := Due_yes (HKC y) hb hx; unfold dueB at z; rw [hfx] at z; exact z)
        have TRIC := Lib.hid (fun y : Cls w3.heap.size w3 => show Calls Try.prog 26 #[.pointer (some ⟨B, 0, none⟩), .int .i64 x] y.w fun e w' => e = .returned (.int .i64 0) ∧ w' = y.w from by have z := Tries_yes (HKC y) hb hx; rw [hfx] at z; exact z)
        clear HKC hfx hno
        go_wp2_with fail
        refine wp_region_calm (B := w3.heap.size) (W0 := w3) (by kernel_rfl) (by kernel_rfl) (Below.refl _ _) (Nat.le_refl _) ?_
        repeat (go_big_quiet_step (first | (go_at_call 32; exact calm_same (NOWC.out _)) | (go_at_call 27; exact calm (DUEC.out _)) | (go_at_call 26; exact calm_same (TRIC.out _))))
        refine wpQuiet_nil ?_
        rintro w4 ⟨y, hy⟩
        have hb4 := y.below
        rw [← hy] at hb4
        clear hy
        go_wp2_with fail
        go_ret
        exact ⟨rfl, HBW.out.trans (hb4.mono HBW.out.size)⟩
end Go.Proofs.Ytklkhlipecphkaa
