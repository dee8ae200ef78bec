/- Digits: a text taken apart, by the program. -/
import Derived.Test.YtfpmchhpejncpaaDoorE
import Derived.Laws.RangeString
import Derived.Laws.RangeAny
import Derived.Scope
import Derived.Deep.LoopGhost
namespace Go.Proofs.YtfpmchhpejncpaaDoor
open Go.RowKit
set_option maxRecDepth 100000
set_option linter.unusedVariables false

theorem digit_any (c : Int) (w : World) : Calls Tryd.prog 39 #[.int .i32 c] w fun e w' => e = .returned (.bool (decide (48 ≤ c ∧ c ≤ 57))) ∧ w' = w := by
  by_cases h1 : 48 ≤ c
  · have d1 : decide (48 ≤ c) = true := decide_eq_true h1
    have e : decide (48 ≤ c ∧ c ≤ 57) = decide (c ≤ 57) := by simp [h1]
    rw [e]
    clear e
    go_enter Tryd.func39, Tryd.ntmps39
    go_wp2_with fail
    go_ret
    exact ⟨rfl, rfl⟩
  · have d1 : decide (48 ≤ c) = false := decide_eq_false h1
    have e : decide (48 ≤ c ∧ c ≤ 57) = false := by simp [h1]
    rw [e]
    clear e
    go_enter Tryd.func39, Tryd.ntmps39
    go_wp2_with fail
    go_ret
    exact ⟨rfl, rfl⟩
/-- What the loop knows: the first pos bytes are digits, but for a point at p. -/
structure Seen (l : List UInt8) (pos p : Nat) : Prop where
  le : pos ≤ l.length
  ple : p ≤ l.length
  cases_ : p = l.length ∨ (p < pos ∧ l[p]? = some 46)
  dig : ∀ j b, j < pos → j ≠ p → l[j]? = some b → isDig b = true
theorem Seen.start (l : List UInt8) : Seen l 0 l.length := ⟨by omega, Nat.le_refl _, .inl rfl, fun j b h => absurd h (by omega)⟩
theorem Seen.digit {l : List UInt8} {pos p : Nat} (h : Seen l pos p) {b : UInt8} (hb : l[pos]? = some b) (hd : isDig b = true) : Seen l (pos + 1) p := by
  have hlt := (List.getElem?_eq_some_iff.1 hb).1
  refine ⟨hlt, h.ple, ?_, fun j c hj hne e => ?_⟩
  · rcases h.cases_ with h | h
    · exact .inl h
    · exact .inr ⟨by omega, h.2⟩
  · rcases Nat.lt_or_ge j pos with h1 | h1
    · exact h.dig j c h1 hne e
    · obtain rfl : j = pos := by omega
      rw [hb] at e; cases e; exact hd
theorem Seen.point {l : List UInt8} {pos : Nat} (h : Seen l pos l.length) (hb : l[pos]? = some 46) : Seen l (pos + 1) pos := by
  have hlt := (List.getElem?_eq_some_iff.1 hb).1
  refine ⟨hlt, by omega, .inr ⟨by omega, hb⟩, fun j c hj hne e => h.dig j c (by omega) (by omega) e⟩
theorem allL_take {l : List UInt8} {p : Nat} (hp : p ≤ l.length) (h : ∀ j b, j < p → l[j]? = some b → isDig b = true) : allL (l.take p) = decide (0 < p) := by
  unfold allL
  have h1 : (l.take p).all isDig = true := by
    rw [List.all_eq_true]
    intro b hb
    obtain ⟨j, hj, e⟩ := List.getElem_of_mem hb
    rw [List.length_take] at hj
    refine h j b (by omega) ?_
    rw [← e, List.getElem_take, List.getElem?_eq_getElem]
  rw [h1, Bool.and_true]
  cases p with
  | zero => simp
  | succ p =>
    cases l with
    | nil => simp at hp
    | cons a l => simp
theorem Seen.ahead {l : List UInt8} {pos p : Nat} (h : Seen l pos p) (hend : p < pos ∨ pos = l.length) : aheadL l = l.take p := by
  refine ahead_take l p h.ple (fun j b hj e => ?_) ?_
  · have hjp : j < pos := by
      have := (List.getElem?_eq_some_iff.1 e).1
      rcases hend with h1 | h1 <;> omega
    have hd := h.dig j b hjp (by omega) e
    intro e2; subst e2; revert hd; decide
  · rcases h.cases_ with h | h
    · exact .inl h
    · exact .inr h.2
/-- The text is a number's, as far as its end goes. -/
def rightB (l : List UInt8) (p : Nat) : Bool := decide (0 < p) && (p == 1 || l.head? != some 48) && (p == l.length || decide (p + 1 < l.length))
theorem Seen.good {l : List UInt8} {p : Nat} (h : Seen l l.length p) (below : Bool) : restL below l = if rightB l p = true then some (below, l.take p, l.drop (p + 1)) else none := by
  have ha := h.ahead (.inr rfl)
  have hp := h.ple
  have hall : allL (l.take p) = decide (0 < p) := allL_take hp (fun j b hj e => h.dig j b (by omega) (by omega) e)
  have hlen : (l.take p).length = p := by rw [List.length_take]; omega
  have hhead : 0 < p → (l.take p).head? = l.head? := fun h0 => by
    cases l with
    | nil => simp
    | cons a l => cases p with
      | zero => omega
      | succ p => rfl
  have hho : headOk (aheadL l) = (decide (0 < p) && (p == 1 || l.head? != some 48)) := by
    rw [ha, headOk, hall, hlen]
    by_cases h0 : 0 < p
    · rw [hhead h0]
    · simp [h0]
  unfold restL rightB
  rw [hho, ha, hlen]
  by_cases h1 : (decide (0 < p) && (p == 1 || l.head? != some 48)) = true
  · rw [h1, if_pos rfl]
    by_cases h2 : p = l.length
    · rw [if_pos h2]
      have e1 : (p == l.length) = true := by simpa using h2
      rw [e1]
      simp only [Bool.true_and, Bool.true_or, if_true]
      rw [List.drop_of_length_le (by omega)]
    · rw [if_neg h2]
      have e1 : (p == l.length) = false := by simpa using h2
      rw [e1]
      simp only [Bool.true_and, Bool.false_or]
      have hdall : allL (l.drop (p + 1)) = decide (p + 1 < l.length) := by
        unfold allL
        have h3 : (l.drop (p + 1)).all isDig = true := by
          rw [List.all_eq_true]
          intro b hb
          obtain ⟨j, hj, e⟩ := List.getElem_of_mem hb
          rw [List.length_drop] at hj
          refine h.dig (p + 1 + j) b (by omega) (by omega) ?_
          rw [← e, List.getElem_drop, List.getElem?_eq_getElem]
        rw [h3, Bool.and_true]
        by_cases h4 : p + 1 < l.length
        · have : l.drop (p + 1) ≠ [] := fun e => by have := congrArg List.length e; rw [List.length_drop] at this; simp at this; omega
          simp [h4, this]
        · rw [List.drop_of_length_le (by omega)]; simp [h4]
      rw [hdall]
  · have h1 : (decide (0 < p) && (p == 1 || l.head? != some 48)) = false := by simpa using h1
    rw [h1]; simp
theorem Seen.bad {l : List UInt8} {pos p : Nat} (h : Seen l pos p) {b : UInt8} (hb : l[pos]? = some b) (hd : isDig b = false) (hp : b ≠ 46 ∨ p ≠ l.length) (below : Bool) : restL below l = none := by
  have hlt := (List.getElem?_eq_some_iff.1 hb).1
  rcases h.cases_ with hpl | ⟨hpp, h46⟩
  · -- no point so far: the byte is ahead of any point
    have hb46 : b ≠ 46 := by
      rcases hp with h | h
      · exact h
      · exact absurd hpl h
    refine restL_head ?_
    have hall : allL (aheadL l) = false := by
      unfold allL
      have : (aheadL l).all isDig = false := by
        rw [List.all_eq_false]
        refine ⟨b, ?_, by simp [hd]⟩
        have hpre : ∀ (l : List UInt8) (pos : Nat), (∀ j c, j < pos → l[j]? = some c → c ≠ 46) → l[pos]? = some b → b ∈ aheadL l := by
          intro l
          induction l with
          | nil => intro pos _ e; simp at e
          | cons a l ih =>
            intro pos hj e
            cases pos with
            | zero => simp at e; subst e; unfold aheadL; simp [hb46]
            | succ pos =>
              have ha : a ≠ 46 := hj 0 a (by omega) rfl
              have := ih pos (fun j c hc ec => hj (j + 1) c (by omega) (by simpa using ec)) (by simpa using e)
              unfold aheadL at this ⊢
              simp [ha, this]
        refine hpre l pos (fun j c hj e => ?_) hb
        have := h.dig j c hj (by have := (List.getElem?_eq_some_iff.1 e).1; omega) e
        intro e2; subst e2; revert this; decide
      rw [this, Bool.and_false]
    rw [headOk, hall]; rfl
  · have ha := h.ahead (.inl hpp)
    have hlen : (l.take p).length = p := by rw [List.length_take]; omega
    by_cases hho : headOk (aheadL l) = true
    · refine restL_none (b := l.drop (p + 1)) hho (by rw [ha, hlen]; omega) (by rw [ha, hlen]) ?_
      unfold allL
      have : (l.drop (p + 1)).all isDig = false := by
        rw [List.all_eq_false]
        refine ⟨b, ?_, by simp [hd]⟩
        have hne : pos ≠ p := fun e => by omega
        refine List.mem_iff_getElem?.2 ⟨pos - (p + 1), ?_⟩
        rw [List.getElem?_drop, show p + 1 + (pos - (p + 1)) = pos by omega]
        exact hb
      rw [this, Bool.and_false]
    · exact restL_head (by simpa using hho)

/-- What apart answers: where there is no number, whatever it be. -/
def ApartPost (o : Option (Bool × List UInt8 × List UInt8)) (w : World) (e : Ending) (w' : World) : Prop :=
  Below w.heap.size w w' ∧ ∃ (below ok : Bool) (A B : ByteArray), e = .returned (.tuple #[.agg #[.bool below, .string A, .string B], .bool ok]) ∧ (match o with | some (x, y, z) => ok = true ∧ below = x ∧ A.data.toList = y ∧ B.data.toList = z | none => ok = false)
theorem next_ascii (W0 : World) (B : Nat) (hB : W0.heap.size = B) (s : ByteArray) (pos : Nat) (h : pos < s.size) (c : UInt8) (hc : c = s[pos]) (ha : c.toNat < 128) (ty : TypeId) :
    (Instr.next (.pointer (some ⟨B, 0, none⟩)) true ty).run Tryd.prog (W0.iter s pos) = .ok (.tuple #[.bool true, .int .i64 (pos : Int), .int .i32 (c.toNat : Int)]) (W0.iter s (pos + 1)) := by
  subst hB hc; exact run_next_ascii W0 s pos ty h ha
theorem next_end (W0 : World) (B : Nat) (hB : W0.heap.size = B) (s : ByteArray) (pos : Nat) (h : ¬ pos < s.size) (ty : TypeId) :
    (Instr.next (.pointer (some ⟨B, 0, none⟩)) true ty).run Tryd.prog (W0.iter s pos) = .ok (.tuple #[.bool false]) (W0.iter s pos) := by
  subst hB; exact run_next_end W0 s pos ty h
theorem next_high (W0 : World) (B : Nat) (hB : W0.heap.size = B) (s : ByteArray) (pos : Nat) (h : pos < s.size) (ha : 128 ≤ s[pos].toNat) :
    ∃ (r wd : Nat), 128 ≤ r ∧ ∀ ty, (Instr.next (.pointer (some ⟨B, 0, none⟩)) true ty).run Tryd.prog (W0.iter s pos) = .ok (.tuple #[.bool true, .int .i64 (pos : Int), .int .i32 (r : Int)]) (W0.iter s (pos + wd)) := by
  subst hB
  exact ⟨_, _, (decode_high s pos h ha).1, fun ty => run_next_any W0 s pos ty h⟩
theorem isDig_int (c : UInt8) : decide (48 ≤ (c.toNat : Int) ∧ (c.toNat : Int) ≤ 57) = isDig c := by
  rw [Bool.eq_iff_iff, isDig_iff]; simp; omega
theorem blist (s : ByteArray) : s.toList = s.data.toList := ByteArray.toList_eq s
theorem bempty {s : ByteArray} (h : 0 < s.size) : s.toList.isEmpty = false := by
  rw [blist]; rw [lsize] at h
  cases hl : s.data.toList with
  | nil => rw [hl] at h; simp at h
  | cons a l => rfl
theorem bnil {s : ByteArray} (h : 0 < s.size) : ¬ s.toList = [] := fun e => by
  have := bempty h; rw [e] at this; cases this
theorem bzero {s : ByteArray} (h : s.size = 0) : s.toList = [] := by
  rw [blist]; exact List.eq_nil_of_length_eq_zero (by rw [← lsize]; exact h)
theorem ext_zero (Z : ByteArray) (p : Nat) (h0 : 0 < Z.size) (hp : 0 < p) (hle : p ≤ Z.size) : True := trivial
theorem get_ext (Z A : ByteArray) (p : Nat) (hA : Z.extract 0 p = A) (hA0 : 0 < A.size) (h0 : 0 < Z.size) : A[0] = Z[0] := by
  have h1 := lget A 0 hA0
  have h2 := lget Z 0 h0
  have h3 : A.data.toList = Z.data.toList.take p := by rw [← hA, ext_list]; simp
  rw [h3, List.getElem?_take] at h1
  split at h1
  · rw [h2] at h1; exact (Option.some.inj h1).symm
  · cases h1
theorem head_get {Z : ByteArray} (h0 : 0 < Z.size) : Z.data.toList.head? = some Z[0] := by rw [List.head?_eq_getElem?, lget Z 0 h0]
theorem right_zero {Z : ByteArray} {p : Nat} (h0 : 0 < Z.size) (h1 : 1 < p) (h : Z[0] = 48) : rightB Z.data.toList p = false := by
  unfold rightB
  rw [head_get h0, h]
  have : (p == 1) = false := by simp; omega
  rw [this]; simp
theorem right_whole {Z : ByteArray} (h0 : 0 < Z.size) (h : ¬ (1 < Z.size ∧ Z[0] = 48)) : rightB Z.data.toList Z.size = true := by
  unfold rightB
  rw [head_get h0, ← lsize]
  have h1 : (Z.size == 1 || some Z[0] != some 48) = true := by
    by_cases e : Z.size = 1
    · simp [e]
    · have : Z[0] ≠ 48 := fun e2 => h ⟨by omega, e2⟩
      simp [this]
  rw [h1]; simp [h0]
theorem right_stop {Z : ByteArray} {p : Nat} (hp : 0 < p) (hlt : p < Z.size) (h : ¬ p + 1 < Z.size) : rightB Z.data.toList p = false := by
  unfold rightB
  rw [← lsize]
  have h1 : (p == Z.size) = false := by simp; omega
  rw [h1]; simp [h]
theorem right_more {Z : ByteArray} {p : Nat} (h0 : 0 < Z.size) (hp : 0 < p) (h : ¬ (1 < p ∧ Z[0] = 48)) (h2 : p + 1 < Z.size) : rightB Z.data.toList p = true := by
  unfold rightB
  rw [head_get h0, ← lsize]
  have h1 : (p == 1 || some Z[0] != some 48) = true := by
    by_cases e : p = 1
    · simp [e]
    · have : Z[0] ≠ 48 := fun e2 => h ⟨by omega, e2⟩
      simp [this]
  rw [h1]; simp [hp, h2]
theorem below_three (w : World) (a b c : Obj) : Below w.heap.size w (((w.alloc a).alloc b).alloc c) := (((Below.refl _ _).alloc (Nat.le_refl _) _).alloc (by simp) _).alloc (by simp; omega) _
set_option maxHeartbeats 16000000 in
theorem apart_plain (Z : ByteArray) (hZs : Z.size ≤ 100000) (h0 : 0 < Z.size) (h45 : Z[0] ≠ 45) (w : World) :
    Calls Tryd.prog 23 #[.string Z] w (ApartPost (restL false Z.data.toList) w) := by
  have t0 : ((Z[0].toNat : Int) == 45) = false := byte_ne 45 h45
  clear h45
  have HDIG := Lib.hid digit_any
  have hsz := Lib.hid (lsize Z)
  go_enter Tryd.func23, Tryd.ntmps23
  go_wp2_with fail
  go_step3
  go_wp2_with fail
  go_step3
  go_wp2_with fail
  skip
  clear t0
  obtain ⟨W0, hW0⟩ : ∃ W0, W0 = (w.alloc (.cells #[.bool false, .string ⟨#[]⟩, .string ⟨#[]⟩] 51)).alloc (.cells #[.bool false, .string ⟨#[]⟩, .string ⟨#[]⟩] 51) := ⟨_, rfl⟩
  have hs0 : W0.heap.size = w.heap.size + 1 + 1 := by rw [hW0, World.size_alloc, World.size_alloc]
  have HITER : Hid (∀ q, W0.iter Z q = ((w.alloc (.cells #[.bool false, .string ⟨#[]⟩, .string ⟨#[]⟩] 51)).alloc (.cells #[.bool false, .string ⟨#[]⟩, .string ⟨#[]⟩] 51)).alloc (.stringIter Z q)) := Lib.hid (fun q => by rw [hW0]; rfl)
  rw [← hW0]
  have HS0 := Lib.hid hs0
  clear hW0 hs0
  go_loopw [5, 6, 7, 8] (fun q e _ _ wr => ∃ pos p : Nat, wr = W0.iter Z pos ∧ q = .int .i64 (p : Int) ∧ e = .bool true ∧ Seen Z.data.toList pos p) (fun _ _ _ _ wr => Z.size - wr.iterPos W0.heap.size)
  case atStart => exact ⟨0, Z.size, rfl, rfl, rfl, by rw [hsz.out]; exact Seen.start _⟩
  case round =>
    obtain ⟨pos, p, rfl, rfl, rfl, hseen⟩ := hrel
    have HSE := Lib.hid hseen
    have hple := hseen.ple
    have hpos := hseen.le
    rw [← hsz.out] at hple hpos
    clear hseen
    by_cases hlt : pos < Z.size
    · have HL := Lib.hid (lget Z pos hlt)
      by_cases ha : Z[pos].toNat < 128
      · obtain ⟨c, hc⟩ : ∃ c, c = Z[pos] := ⟨_, rfl⟩
        rw [← hc] at HL ha
        have hnx := next_ascii W0 _ HS0.out Z pos hlt c hc ha
        have HNX2 : Hid (∀ ty, (Instr.next (.pointer (some ⟨w.heap.size + 1 + 1, 0, none⟩)) true ty).run Tryd.prog (W0.iter Z pos) = .ok (.tuple #[.bool true, .int .i64 (pos : Int), .int .i32 (c.toNat : Int)]) (((w.alloc (.cells #[.bool false, .string ⟨#[]⟩, .string ⟨#[]⟩] 51)).alloc (.cells #[.bool false, .string ⟨#[]⟩, .string ⟨#[]⟩] 51)).alloc (.stringIter Z (pos + 1)))) := Lib.hid (fun ty => by rw [← HITER.out]; exact hnx ty)
        clear hc
        cases hd : isDig c with
        | true =>
          have HN := Lib.hid (HSE.out.digit HL.out hd)
          have HD := Lib.hid hd
          clear hd
          go_wp2_with fail
          refine (HDIG.out _ _).mono ?_
          rintro e w1 ⟨rfl, rfl⟩
          rw [isDig_int, HD.out]
          clear hnx
          go_wp2_with fail
          go_roundw
          case rel => exact ⟨pos + 1, p, rfl, rfl, rfl, HN.out⟩
          case measure => simp; omega
        | false =>
          have HD := Lib.hid hd
          clear hd
          by_cases h46 : c = 46 ∧ p = Z.size
          · obtain ⟨h4, hpz⟩ := h46
            have HN := Lib.hid (Seen.point (by rw [← hsz.out, ← hpz]; exact HSE.out) (HL.out.trans (by rw [h4])))
            have v1 : ((c.toNat : Int) == 46) = true := byte_eq 46 h4
            clear h4
            subst hpz
            go_wp2_with fail
            refine (HDIG.out _ _).mono ?_
            rintro e w1 ⟨rfl, rfl⟩
            rw [isDig_int, HD.out]
            clear hnx
            go_wp2_with fail
            go_roundw
            case rel => exact ⟨pos + 1, pos, rfl, rfl, rfl, HN.out⟩
            case measure => simp; omega
          · have HOK := Lib.hid (HSE.out.bad HL.out HD.out (by rcases Classical.em (c = 46) with h | h; (right; rw [← hsz.out]; exact fun e => h46 ⟨h, e⟩); exact .inl h) false)
            have hnx2 := HNX2.out
            have hch : c ≠ 46 ∨ (c = 46 ∧ p ≠ Z.size) := by
              by_cases h : c = 46
              · exact .inr ⟨h, fun e => h46 ⟨h, e⟩⟩
              · exact .inl h
            clear hnx h46
            rcases hch with h | ⟨h4, h⟩
            · have v1 : ((c.toNat : Int) == 46) = false := byte_ne 46 h
              clear h
              go_wp2_with fail
              refine (HDIG.out _ _).mono ?_
              rintro e w1 ⟨rfl, hw1⟩
              subst hw1
              rw [isDig_int, HD.out]
              clear hnx2
              by_cases hp0 : p = 0
              · subst hp0
                obtain ⟨B, hB⟩ : ∃ B, Z.extract 1 Z.size = B := ⟨_, rfl⟩
                clear HSE
                go_wp2_with fail
                try rw [Exit.noGoto_ret]
                exact bodyPost_ret (v := .tuple #[.agg #[.bool false, .string ByteArray.empty, .string B], .bool false]) (by simp [results, Tryd.results23, go_sem]) rfl (by rw [HOK.out]; exact ⟨below_three w _ _ _, false, false, ByteArray.empty, B, rfl, rfl⟩)
              · by_cases hpz : p = Z.size
                · subst hpz
                  have hA1 : Z.toList.isEmpty = false := bempty h0
                  have hA2 : ¬ Z.toList = [] := bnil h0
                  by_cases hbad : 1 < Z.size ∧ Z[0] = 48
                  · obtain ⟨hb1, hb2⟩ := hbad
                    have u1 : ((Z[0].toNat : Int) == 48) = true := byte_eq 48 hb2
                    have u1n : ((Z[0].toNat : Int) != 48) = false := by rw [bne, u1]; rfl
                    have u2 : ((Z.size : Int) == 1) = false := by simp; omega
                    clear HSE hb2
                    go_wp2_with fail
                    try rw [Exit.noGoto_ret]
                    exact bodyPost_ret (v := .tuple #[.agg #[.bool false, .string Z, .string ⟨#[]⟩], .bool false]) (by simp [results, Tryd.results23, go_sem]) rfl (by rw [HOK.out]; exact ⟨below_three w _ _ _, false, false, Z, ⟨#[]⟩, rfl, rfl⟩)
                  · have HR := Lib.hid (right_whole h0 hbad)
                    have HAL : Hid (Z.data.toList = Z.data.toList) := Lib.hid rfl
                    have HBL : Hid ((ByteArray.mk #[]).data.toList = []) := Lib.hid rfl
                    have hch : Z.size = 1 ∨ (1 < Z.size ∧ Z[0] ≠ 48) := by
                      by_cases h1 : Z.size = 1
                      · exact .inl h1
                      · exact .inr ⟨by omega, fun e => hbad ⟨by omega, e⟩⟩
                    clear HSE hbad
                    rcases hch with h1 | ⟨h1, h2⟩
                    · have u2 : ((Z.size : Int) == 1) = true := by rw [h1]; rfl
                      by_cases h48 : Z[0] = 48
                      · have u1 : ((Z[0].toNat : Int) == 48) = true := byte_eq 48 h48
                        have u1n : ((Z[0].toNat : Int) != 48) = false := by rw [bne, u1]; rfl
                        clear h48 h1
                        go_wp2_with fail
                        try rw [Exit.noGoto_ret]
                        exact bodyPost_ret (v := .tuple #[.agg #[.bool false, .string Z, .string ⟨#[]⟩], .bool false]) (by simp [results, Tryd.results23, go_sem]) rfl (by rw [HOK.out]; exact ⟨below_three w _ _ _, false, false, Z, ⟨#[]⟩, rfl, rfl⟩)
                      · have u1 : ((Z[0].toNat : Int) == 48) = false := byte_ne 48 h48
                        have u1n : ((Z[0].toNat : Int) != 48) = true := by rw [bne, u1]; rfl
                        clear h48 h1
                        go_wp2_with fail
                        try rw [Exit.noGoto_ret]
                        exact bodyPost_ret (v := .tuple #[.agg #[.bool false, .string Z, .string ⟨#[]⟩], .bool false]) (by simp [results, Tryd.results23, go_sem]) rfl (by rw [HOK.out]; exact ⟨below_three w _ _ _, false, false, Z, ⟨#[]⟩, rfl, rfl⟩)
                    · have u1 : ((Z[0].toNat : Int) == 48) = false := byte_ne 48 h2
                      have u1n : ((Z[0].toNat : Int) != 48) = true := by rw [bne, u1]; rfl
                      clear h2
                      go_wp2_with fail
                      try rw [Exit.noGoto_ret]
                      exact bodyPost_ret (v := .tuple #[.agg #[.bool false, .string Z, .string ⟨#[]⟩], .bool false]) (by simp [results, Tryd.results23, go_sem]) rfl (by rw [HOK.out]; exact ⟨below_three w _ _ _, false, false, Z, ⟨#[]⟩, rfl, rfl⟩)
                · have hplt : p < Z.size := by omega
                  have hne : ((p : Int) == (Z.size : Int)) = false := by simp; omega
                  have hne2 : ¬ p = Z.size := hpz
                  have hA00 := ext_zero Z p h0 (by omega) hple
                  obtain ⟨A, hA⟩ : ∃ A, Z.extract 0 p = A := ⟨_, rfl⟩
                  have hAs : A.size = p := by rw [← hA, lsize, ext_list, List.length_take, List.length_drop, ← lsize]; omega
                  have hA0 : 0 < A.size := by omega
                  have HAL : Hid (A.data.toList = Z.data.toList.take p) := Lib.hid (by rw [← hA, ext_list]; simp)
                  have hA1 : A.toList.isEmpty = false := bempty hA0
                  have hA2 : ¬ A.toList = [] := bnil hA0
                  have HZ0 : Hid (A[0] = Z[0]) := Lib.hid (get_ext Z A p hA hA0 h0)
                  obtain ⟨B, hB⟩ : ∃ B, Z.extract (p + 1) Z.size = B := ⟨_, rfl⟩
                  have HBL : Hid (B.data.toList = Z.data.toList.drop (p + 1)) := Lib.hid (by rw [← hB, ext_list, List.take_of_length_le]; rw [List.length_drop, ← lsize]; omega)
                  have HBS : Hid (B.size = Z.size - (p + 1)) := Lib.hid (by rw [lsize, HBL.out, List.length_drop, ← lsize])
                  clear hA00 hpz
                  by_cases hbad : 1 < p ∧ Z[0] = 48
                  · obtain ⟨hb1, hb2⟩ := hbad
                    have u1 : ((A[0].toNat : Int) == 48) = true := byte_eq 48 (by rw [HZ0.out]; exact hb2)
                    have u1n : ((A[0].toNat : Int) != 48) = false := by rw [bne, u1]; rfl
                    have u2 : ((p : Int) == 1) = false := by simp; omega
                    clear HSE hb2
                    go_wp2_with fail
                    try rw [Exit.noGoto_ret]
                    exact bodyPost_ret (v := .tuple #[.agg #[.bool false, .string A, .string B], .bool false]) (by simp [results, Tryd.results23, go_sem]) rfl (by rw [HOK.out]; exact ⟨below_three w _ _ _, false, false, A, B, rfl, rfl⟩)
                  · have hch : p = 1 ∨ (1 < p ∧ Z[0] ≠ 48) := by
                      by_cases h1 : p = 1
                      · exact .inl h1
                      · exact .inr ⟨by omega, fun e => hbad ⟨by omega, e⟩⟩
                    have hmore : (B.size = 0 ∧ rightB Z.data.toList p = false) ∨ (0 < B.size ∧ rightB Z.data.toList p = true) := by
                      rcases Nat.eq_zero_or_pos B.size with h | h
                      · exact .inl ⟨h, right_stop (by omega) hplt (by have := HBS.out; omega)⟩
                      · exact .inr ⟨h, right_more h0 (by omega) hbad (by have := HBS.out; omega)⟩
                    clear hbad
                    rcases hmore with ⟨hb0, hrr⟩ | ⟨hb0, hrr⟩
                    · have hB1 : B.toList = [] := bzero hb0
                      clear HSE hrr
                      rcases hch with h1 | ⟨h1, h2⟩
                      · have u2 : ((p : Int) == 1) = true := by rw [h1]; rfl
                        by_cases h48 : Z[0] = 48
                        · have u1 : ((A[0].toNat : Int) == 48) = true := byte_eq 48 (by rw [HZ0.out]; exact h48)
                          have u1n : ((A[0].toNat : Int) != 48) = false := by rw [bne, u1]; rfl
                          clear h48 h1
                          go_wp2_with fail
                          try rw [Exit.noGoto_ret]
                          exact bodyPost_ret (v := .tuple #[.agg #[.bool false, .string A, .string B], .bool false]) (by simp [results, Tryd.results23, go_sem]) rfl (by rw [HOK.out]; exact ⟨below_three w _ _ _, false, false, A, B, rfl, rfl⟩)
                        · have u1 : ((A[0].toNat : Int) == 48) = false := byte_ne 48 (by rw [HZ0.out]; exact h48)
                          have u1n : ((A[0].toNat : Int) != 48) = true := by rw [bne, u1]; rfl
                          clear h48 h1
                          go_wp2_with fail
                          try rw [Exit.noGoto_ret]
                          exact bodyPost_ret (v := .tuple #[.agg #[.bool false, .string A, .string B], .bool false]) (by simp [results, Tryd.results23, go_sem]) rfl (by rw [HOK.out]; exact ⟨below_three w _ _ _, false, false, A, B, rfl, rfl⟩)
                      · have u1 : ((A[0].toNat : Int) == 48) = false := byte_ne 48 (by rw [HZ0.out]; exact h2)
                        have u1n : ((A[0].toNat : Int) != 48) = true := by rw [bne, u1]; rfl
                        clear h2
                        go_wp2_with fail
                        try rw [Exit.noGoto_ret]
                        exact bodyPost_ret (v := .tuple #[.agg #[.bool false, .string A, .string B], .bool false]) (by simp [results, Tryd.results23, go_sem]) rfl (by rw [HOK.out]; exact ⟨below_three w _ _ _, false, false, A, B, rfl, rfl⟩)
                    · have hB1 : B.toList.isEmpty = false := bempty hb0
                      have hB2 : ¬ B.toList = [] := bnil hb0
                      clear HSE hrr
                      rcases hch with h1 | ⟨h1, h2⟩
                      · have u2 : ((p : Int) == 1) = true := by rw [h1]; rfl
                        by_cases h48 : Z[0] = 48
                        · have u1 : ((A[0].toNat : Int) == 48) = true := byte_eq 48 (by rw [HZ0.out]; exact h48)
                          have u1n : ((A[0].toNat : Int) != 48) = false := by rw [bne, u1]; rfl
                          clear h48 h1
                          go_wp2_with fail
                          try rw [Exit.noGoto_ret]
                          exact bodyPost_ret (v := .tuple #[.agg #[.bool false, .string A, .string B], .bool false]) (by simp [results, Tryd.results23, go_sem]) rfl (by rw [HOK.out]; exact ⟨below_three w _ _ _, false, false, A, B, rfl, rfl⟩)
                        · have u1 : ((A[0].toNat : Int) == 48) = false := byte_ne 48 (by rw [HZ0.out]; exact h48)
                          have u1n : ((A[0].toNat : Int) != 48) = true := by rw [bne, u1]; rfl
                          clear h48 h1
                          go_wp2_with fail
                          try rw [Exit.noGoto_ret]
                          exact bodyPost_ret (v := .tuple #[.agg #[.bool false, .string A, .string B], .bool false]) (by simp [results, Tryd.results23, go_sem]) rfl (by rw [HOK.out]; exact ⟨below_three w _ _ _, false, false, A, B, rfl, rfl⟩)
                      · have u1 : ((A[0].toNat : Int) == 48) = false := byte_ne 48 (by rw [HZ0.out]; exact h2)
                        have u1n : ((A[0].toNat : Int) != 48) = true := by rw [bne, u1]; rfl
                        clear h2
                        go_wp2_with fail
                        try rw [Exit.noGoto_ret]
                        exact bodyPost_ret (v := .tuple #[.agg #[.bool false, .string A, .string B], .bool false]) (by simp [results, Tryd.results23, go_sem]) rfl (by rw [HOK.out]; exact ⟨below_three w _ _ _, false, false, A, B, rfl, rfl⟩)
            · have v2 : ((p : Int) == (Z.size : Int)) = false := by simp; omega
              have v1 : ((c.toNat : Int) == 46) = true := byte_eq 46 h4
              clear h4
              have v3 : ¬ p = Z.size := h
              clear h
              go_wp2_with fail
              refine (HDIG.out _ _).mono ?_
              rintro e w1 ⟨rfl, hw1⟩
              subst hw1
              rw [isDig_int, HD.out]
              clear hnx2
              by_cases hp0 : p = 0
              · subst hp0
                obtain ⟨B, hB⟩ : ∃ B, Z.extract 1 Z.size = B := ⟨_, rfl⟩
                clear HSE
                go_wp2_with fail
                try rw [Exit.noGoto_ret]
                exact bodyPost_ret (v := .tuple #[.agg #[.bool false, .string ByteArray.empty, .string B], .bool false]) (by simp [results, Tryd.results23, go_sem]) rfl (by rw [HOK.out]; exact ⟨below_three w _ _ _, false, false, ByteArray.empty, B, rfl, rfl⟩)
              · by_cases hpz : p = Z.size
                · exact absurd hpz v3
                · have hplt : p < Z.size := by omega
                  have hne : ((p : Int) == (Z.size : Int)) = false := by simp; omega
                  have hne2 : ¬ p = Z.size := hpz
                  have hA00 := ext_zero Z p h0 (by omega) hple
                  obtain ⟨A, hA⟩ : ∃ A, Z.extract 0 p = A := ⟨_, rfl⟩
                  have hAs : A.size = p := by rw [← hA, lsize, ext_list, List.length_take, List.length_drop, ← lsize]; omega
                  have hA0 : 0 < A.size := by omega
                  have HAL : Hid (A.data.toList = Z.data.toList.take p) := Lib.hid (by rw [← hA, ext_list]; simp)
                  have hA1 : A.toList.isEmpty = false := bempty hA0
                  have hA2 : ¬ A.toList = [] := bnil hA0
                  have HZ0 : Hid (A[0] = Z[0]) := Lib.hid (get_ext Z A p hA hA0 h0)
                  obtain ⟨B, hB⟩ : ∃ B, Z.extract (p + 1) Z.size = B := ⟨_, rfl⟩
                  have HBL : Hid (B.data.toList = Z.data.toList.drop (p + 1)) := Lib.hid (by rw [← hB, ext_list, List.take_of_length_le]; rw [List.length_drop, ← lsize]; omega)
                  have HBS : Hid (B.size = Z.size - (p + 1)) := Lib.hid (by rw [lsize, HBL.out, List.length_drop, ← lsize])
                  clear hA00 hpz
                  by_cases hbad : 1 < p ∧ Z[0] = 48
                  · obtain ⟨hb1, hb2⟩ := hbad
                    have u1 : ((A[0].toNat : Int) == 48) = true := byte_eq 48 (by rw [HZ0.out]; exact hb2)
                    have u1n : ((A[0].toNat : Int) != 48) = false := by rw [bne, u1]; rfl
                    have u2 : ((p : Int) == 1) = false := by simp; omega
                    clear HSE hb2
                    go_wp2_with fail
                    try rw [Exit.noGoto_ret]
                    exact bodyPost_ret (v := .tuple #[.agg #[.bool false, .string A, .string B], .bool false]) (by simp [results, Tryd.results23, go_sem]) rfl (by rw [HOK.out]; exact ⟨below_three w _ _ _, false, false, A, B, rfl, rfl⟩)
                  · have hch : p = 1 ∨ (1 < p ∧ Z[0] ≠ 48) := by
                      by_cases h1 : p = 1
                      · exact .inl h1
                      · exact .inr ⟨by omega, fun e => hbad ⟨by omega, e⟩⟩
                    have hmore : (B.size = 0 ∧ rightB Z.data.toList p = false) ∨ (0 < B.size ∧ rightB Z.data.toList p = true) := by
                      rcases Nat.eq_zero_or_pos B.size with h | h
                      · exact .inl ⟨h, right_stop (by omega) hplt (by have := HBS.out; omega)⟩
                      · exact .inr ⟨h, right_more h0 (by omega) hbad (by have := HBS.out; omega)⟩
                    clear hbad
                    rcases hmore with ⟨hb0, hrr⟩ | ⟨hb0, hrr⟩
                    · have hB1 : B.toList = [] := bzero hb0
                      clear HSE hrr
                      rcases hch with h1 | ⟨h1, h2⟩
                      · have u2 : ((p : Int) == 1) = true := by rw [h1]; rfl
                        by_cases h48 : Z[0] = 48
                        · have u1 : ((A[0].toNat : Int) == 48) = true := byte_eq 48 (by rw [HZ0.out]; exact h48)
                          have u1n : ((A[0].toNat : Int) != 48) = false := by rw [bne, u1]; rfl
                          clear h48 h1
                          go_wp2_with fail
                          try rw [Exit.noGoto_ret]
                          exact bodyPost_ret (v := .tuple #[.agg #[.bool false, .string A, .string B], .bool false]) (by simp [results, Tryd.results23, go_sem]) rfl (by rw [HOK.out]; exact ⟨below_three w _ _ _, false, false, A, B, rfl, rfl⟩)
                        · have u1 : ((A[0].toNat : Int) == 48) = false := byte_ne 48 (by rw [HZ0.out]; exact h48)
                          have u1n : ((A[0].toNat : Int) != 48) = true := by rw [bne, u1]; rfl
                          clear h48 h1
                          go_wp2_with fail
                          try rw [Exit.noGoto_ret]
                          exact bodyPost_ret (v := .tuple #[.agg #[.bool false, .string A, .string B], .bool false]) (by simp [results, Tryd.results23, go_sem]) rfl (by rw [HOK.out]; exact ⟨below_three w _ _ _, false, false, A, B, rfl, rfl⟩)
                      · have u1 : ((A[0].toNat : Int) == 48) = false := byte_ne 48 (by rw [HZ0.out]; exact h2)
                        have u1n : ((A[0].toNat : Int) != 48) = true := by rw [bne, u1]; rfl
                        clear h2
                        go_wp2_with fail
                        try rw [Exit.noGoto_ret]
                        exact bodyPost_ret (v := .tuple #[.agg #[.bool false, .string A, .string B], .bool false]) (by simp [results, Tryd.results23, go_sem]) rfl (by rw [HOK.out]; exact ⟨below_three w _ _ _, false, false, A, B, rfl, rfl⟩)
                    · have hB1 : B.toList.isEmpty = false := bempty hb0
                      have hB2 : ¬ B.toList = [] := bnil hb0
                      clear HSE hrr
                      rcases hch with h1 | ⟨h1, h2⟩
                      · have u2 : ((p : Int) == 1) = true := by rw [h1]; rfl
                        by_cases h48 : Z[0] = 48
                        · have u1 : ((A[0].toNat : Int) == 48) = true := byte_eq 48 (by rw [HZ0.out]; exact h48)
                          have u1n : ((A[0].toNat : Int) != 48) = false := by rw [bne, u1]; rfl
                          clear h48 h1
                          go_wp2_with fail
                          try rw [Exit.noGoto_ret]
                          exact bodyPost_ret (v := .tuple #[.agg #[.bool false, .string A, .string B], .bool false]) (by simp [results, Tryd.results23, go_sem]) rfl (by rw [HOK.out]; exact ⟨below_three w _ _ _, false, false, A, B, rfl, rfl⟩)
                        · have u1 : ((A[0].toNat : Int) == 48) = false := byte_ne 48 (by rw [HZ0.out]; exact h48)
                          have u1n : ((A[0].toNat : Int) != 48) = true := by rw [bne, u1]; rfl
                          clear h48 h1
                          go_wp2_with fail
                          try rw [Exit.noGoto_ret]
                          exact bodyPost_ret (v := .tuple #[.agg #[.bool false, .string A, .string B], .bool false]) (by simp [results, Tryd.results23, go_sem]) rfl (by rw [HOK.out]; exact ⟨below_three w _ _ _, false, false, A, B, rfl, rfl⟩)
                      · have u1 : ((A[0].toNat : Int) == 48) = false := byte_ne 48 (by rw [HZ0.out]; exact h2)
                        have u1n : ((A[0].toNat : Int) != 48) = true := by rw [bne, u1]; rfl
                        clear h2
                        go_wp2_with fail
                        try rw [Exit.noGoto_ret]
                        exact bodyPost_ret (v := .tuple #[.agg #[.bool false, .string A, .string B], .bool false]) (by simp [results, Tryd.results23, go_sem]) rfl (by rw [HOK.out]; exact ⟨below_three w _ _ _, false, false, A, B, rfl, rfl⟩)
      · obtain ⟨r, wd, hr, hnx⟩ := next_high W0 _ HS0.out Z pos hlt (by omega)
        have hnx2 : ∀ ty, (Instr.next (.pointer (some ⟨w.heap.size + 1 + 1, 0, none⟩)) true ty).run Tryd.prog (W0.iter Z pos) = .ok (.tuple #[.bool true, .int .i64 (pos : Int), .int .i32 (r : Int)]) (((w.alloc (.cells #[.bool false, .string ⟨#[]⟩, .string ⟨#[]⟩] 51)).alloc (.cells #[.bool false, .string ⟨#[]⟩, .string ⟨#[]⟩] 51)).alloc (.stringIter Z (pos + wd))) := fun ty => by rw [← HITER.out]; exact hnx ty
        have HOK := Lib.hid (HSE.out.bad HL.out (isDig_no.2 (by omega)) (.inl (fun e => ha (by rw [e]; decide))) false)
        have dr : decide (48 ≤ (r : Int) ∧ (r : Int) ≤ 57) = false := by simp; omega
        have v1 : ((r : Int) == 46) = false := by simp; omega
        clear hnx ha
        go_wp2_with fail
        refine (HDIG.out _ _).mono ?_
        rintro e w1 ⟨rfl, hw1⟩
        subst hw1
        rw [dr]
        clear hnx2 dr
        by_cases hp0 : p = 0
        · subst hp0
          obtain ⟨B, hB⟩ : ∃ B, Z.extract 1 Z.size = B := ⟨_, rfl⟩
          clear HSE
          go_wp2_with fail
          try rw [Exit.noGoto_ret]
          exact bodyPost_ret (v := .tuple #[.agg #[.bool false, .string ByteArray.empty, .string B], .bool false]) (by simp [results, Tryd.results23, go_sem]) rfl (by rw [HOK.out]; exact ⟨below_three w _ _ _, false, false, ByteArray.empty, B, rfl, rfl⟩)
        · by_cases hpz : p = Z.size
          · subst hpz
            have hA1 : Z.toList.isEmpty = false := bempty h0
            have hA2 : ¬ Z.toList = [] := bnil h0
            by_cases hbad : 1 < Z.size ∧ Z[0] = 48
            · obtain ⟨hb1, hb2⟩ := hbad
              have u1 : ((Z[0].toNat : Int) == 48) = true := byte_eq 48 hb2
              have u1n : ((Z[0].toNat : Int) != 48) = false := by rw [bne, u1]; rfl
              have u2 : ((Z.size : Int) == 1) = false := by simp; omega
              clear HSE hb2
              go_wp2_with fail
              try rw [Exit.noGoto_ret]
              exact bodyPost_ret (v := .tuple #[.agg #[.bool false, .string Z, .string ⟨#[]⟩], .bool false]) (by simp [results, Tryd.results23, go_sem]) rfl (by rw [HOK.out]; exact ⟨below_three w _ _ _, false, false, Z, ⟨#[]⟩, rfl, rfl⟩)
            · have HR := Lib.hid (right_whole h0 hbad)
              have HAL : Hid (Z.data.toList = Z.data.toList) := Lib.hid rfl
              have HBL : Hid ((ByteArray.mk #[]).data.toList = []) := Lib.hid rfl
              have hch : Z.size = 1 ∨ (1 < Z.size ∧ Z[0] ≠ 48) := by
                by_cases h1 : Z.size = 1
                · exact .inl h1
                · exact .inr ⟨by omega, fun e => hbad ⟨by omega, e⟩⟩
              clear HSE hbad
              rcases hch with h1 | ⟨h1, h2⟩
              · have u2 : ((Z.size : Int) == 1) = true := by rw [h1]; rfl
                by_cases h48 : Z[0] = 48
                · have u1 : ((Z[0].toNat : Int) == 48) = true := byte_eq 48 h48
                  have u1n : ((Z[0].toNat : Int) != 48) = false := by rw [bne, u1]; rfl
                  clear h48 h1
                  go_wp2_with fail
                  try rw [Exit.noGoto_ret]
                  exact bodyPost_ret (v := .tuple #[.agg #[.bool false, .string Z, .string ⟨#[]⟩], .bool false]) (by simp [results, Tryd.results23, go_sem]) rfl (by rw [HOK.out]; exact ⟨below_three w _ _ _, false, false, Z, ⟨#[]⟩, rfl, rfl⟩)
                · have u1 : ((Z[0].toNat : Int) == 48) = false := byte_ne 48 h48
                  have u1n : ((Z[0].toNat : Int) != 48) = true := by rw [bne, u1]; rfl
                  clear h48 h1
                  go_wp2_with fail
                  try rw [Exit.noGoto_ret]
                  exact bodyPost_ret (v := .tuple #[.agg #[.bool false, .string Z, .string ⟨#[]⟩], .bool false]) (by simp [results, Tryd.results23, go_sem]) rfl (by rw [HOK.out]; exact ⟨below_three w _ _ _, false, false, Z, ⟨#[]⟩, rfl, rfl⟩)
              · have u1 : ((Z[0].toNat : Int) == 48) = false := byte_ne 48 h2
                have u1n : ((Z[0].toNat : Int) != 48) = true := by rw [bne, u1]; rfl
                clear h2
                go_wp2_with fail
                try rw [Exit.noGoto_ret]
                exact bodyPost_ret (v := .tuple #[.agg #[.bool false, .string Z, .string ⟨#[]⟩], .bool false]) (by simp [results, Tryd.results23, go_sem]) rfl (by rw [HOK.out]; exact ⟨below_three w _ _ _, false, false, Z, ⟨#[]⟩, rfl, rfl⟩)
          · have hplt : p < Z.size := by omega
            have hne : ((p : Int) == (Z.size : Int)) = false := by simp; omega
            have hne2 : ¬ p = Z.size := hpz
            have hA00 := ext_zero Z p h0 (by omega) hple
            obtain ⟨A, hA⟩ : ∃ A, Z.extract 0 p = A := ⟨_, rfl⟩
            have hAs : A.size = p := by rw [← hA, lsize, ext_list, List.length_take, List.length_drop, ← lsize]; omega
            have hA0 : 0 < A.size := by omega
            have HAL : Hid (A.data.toList = Z.data.toList.take p) := Lib.hid (by rw [← hA, ext_list]; simp)
            have hA1 : A.toList.isEmpty = false := bempty hA0
            have hA2 : ¬ A.toList = [] := bnil hA0
            have HZ0 : Hid (A[0] = Z[0]) := Lib.hid (get_ext Z A p hA hA0 h0)
            obtain ⟨B, hB⟩ : ∃ B, Z.extract (p + 1) Z.size = B := ⟨_, rfl⟩
            have HBL : Hid (B.data.toList = Z.data.toList.drop (p + 1)) := Lib.hid (by rw [← hB, ext_list, List.take_of_length_le]; rw [List.length_drop, ← lsize]; omega)
            have HBS : Hid (B.size = Z.size - (p + 1)) := Lib.hid (by rw [lsize, HBL.out, List.length_drop, ← lsize])
            clear hA00 hpz
            by_cases hbad : 1 < p ∧ Z[0] = 48
            · obtain ⟨hb1, hb2⟩ := hbad
              have u1 : ((A[0].toNat : Int) == 48) = true := byte_eq 48 (by rw [HZ0.out]; exact hb2)
              have u1n : ((A[0].toNat : Int) != 48) = false := by rw [bne, u1]; rfl
              have u2 : ((p : Int) == 1) = false := by simp; omega
              clear HSE hb2
              go_wp2_with fail
              try rw [Exit.noGoto_ret]
              exact bodyPost_ret (v := .tuple #[.agg #[.bool false, .string A, .string B], .bool false]) (by simp [results, Tryd.results23, go_sem]) rfl (by rw [HOK.out]; exact ⟨below_three w _ _ _, false, false, A, B, rfl, rfl⟩)
            · have hch : p = 1 ∨ (1 < p ∧ Z[0] ≠ 48) := by
                by_cases h1 : p = 1
                · exact .inl h1
                · exact .inr ⟨by omega, fun e => hbad ⟨by omega, e⟩⟩
              have hmore : (B.size = 0 ∧ rightB Z.data.toList p = false) ∨ (0 < B.size ∧ rightB Z.data.toList p = true) := by
                rcases Nat.eq_zero_or_pos B.size with h | h
                · exact .inl ⟨h, right_stop (by omega) hplt (by have := HBS.out; omega)⟩
                · exact .inr ⟨h, right_more h0 (by omega) hbad (by have := HBS.out; omega)⟩
              clear hbad
              rcases hmore with ⟨hb0, hrr⟩ | ⟨hb0, hrr⟩
              · have hB1 : B.toList = [] := bzero hb0
                clear HSE hrr
                rcases hch with h1 | ⟨h1, h2⟩
                · have u2 : ((p : Int) == 1) = true := by rw [h1]; rfl
                  by_cases h48 : Z[0] = 48
                  · have u1 : ((A[0].toNat : Int) == 48) = true := byte_eq 48 (by rw [HZ0.out]; exact h48)
                    have u1n : ((A[0].toNat : Int) != 48) = false := by rw [bne, u1]; rfl
                    clear h48 h1
                    go_wp2_with fail
                    try rw [Exit.noGoto_ret]
                    exact bodyPost_ret (v := .tuple #[.agg #[.bool false, .string A, .string B], .bool false]) (by simp [results, Tryd.results23, go_sem]) rfl (by rw [HOK.out]; exact ⟨below_three w _ _ _, false, false, A, B, rfl, rfl⟩)
                  · have u1 : ((A[0].toNat : Int) == 48) = false := byte_ne 48 (by rw [HZ0.out]; exact h48)
                    have u1n : ((A[0].toNat : Int) != 48) = true := by rw [bne, u1]; rfl
                    clear h48 h1
                    go_wp2_with fail
                    try rw [Exit.noGoto_ret]
                    exact bodyPost_ret (v := .tuple #[.agg #[.bool false, .string A, .string B], .bool false]) (by simp [results, Tryd.results23, go_sem]) rfl (by rw [HOK.out]; exact ⟨below_three w _ _ _, false, false, A, B, rfl, rfl⟩)
                · have u1 : ((A[0].toNat : Int) == 48) = false := byte_ne 48 (by rw [HZ0.out]; exact h2)
                  have u1n : ((A[0].toNat : Int) != 48) = true := by rw [bne, u1]; rfl
                  clear h2
                  go_wp2_with fail
                  try rw [Exit.noGoto_ret]
                  exact bodyPost_ret (v := .tuple #[.agg #[.bool false, .string A, .string B], .bool false]) (by simp [results, Tryd.results23, go_sem]) rfl (by rw [HOK.out]; exact ⟨below_three w _ _ _, false, false, A, B, rfl, rfl⟩)
              · have hB1 : B.toList.isEmpty = false := bempty hb0
                have hB2 : ¬ B.toList = [] := bnil hb0
                clear HSE hrr
                rcases hch with h1 | ⟨h1, h2⟩
                · have u2 : ((p : Int) == 1) = true := by rw [h1]; rfl
                  by_cases h48 : Z[0] = 48
                  · have u1 : ((A[0].toNat : Int) == 48) = true := byte_eq 48 (by rw [HZ0.out]; exact h48)
                    have u1n : ((A[0].toNat : Int) != 48) = false := by rw [bne, u1]; rfl
                    clear h48 h1
                    go_wp2_with fail
                    try rw [Exit.noGoto_ret]
                    exact bodyPost_ret (v := .tuple #[.agg #[.bool false, .string A, .string B], .bool false]) (by simp [results, Tryd.results23, go_sem]) rfl (by rw [HOK.out]; exact ⟨below_three w _ _ _, false, false, A, B, rfl, rfl⟩)
                  · have u1 : ((A[0].toNat : Int) == 48) = false := byte_ne 48 (by rw [HZ0.out]; exact h48)
                    have u1n : ((A[0].toNat : Int) != 48) = true := by rw [bne, u1]; rfl
                    clear h48 h1
                    go_wp2_with fail
                    try rw [Exit.noGoto_ret]
                    exact bodyPost_ret (v := .tuple #[.agg #[.bool false, .string A, .string B], .bool false]) (by simp [results, Tryd.results23, go_sem]) rfl (by rw [HOK.out]; exact ⟨below_three w _ _ _, false, false, A, B, rfl, rfl⟩)
                · have u1 : ((A[0].toNat : Int) == 48) = false := byte_ne 48 (by rw [HZ0.out]; exact h2)
                  have u1n : ((A[0].toNat : Int) != 48) = true := by rw [bne, u1]; rfl
                  clear h2
                  go_wp2_with fail
                  try rw [Exit.noGoto_ret]
                  exact bodyPost_ret (v := .tuple #[.agg #[.bool false, .string A, .string B], .bool false]) (by simp [results, Tryd.results23, go_sem]) rfl (by rw [HOK.out]; exact ⟨below_three w _ _ _, false, false, A, B, rfl, rfl⟩)
    · obtain rfl : pos = Z.size := by omega
      have hnx := next_end W0 _ HS0.out Z Z.size hlt
      have hnx2 : ∀ ty, (Instr.next (.pointer (some ⟨w.heap.size + 1 + 1, 0, none⟩)) true ty).run Tryd.prog (W0.iter Z Z.size) = .ok (.tuple #[.bool false]) (((w.alloc (.cells #[.bool false, .string ⟨#[]⟩, .string ⟨#[]⟩] 51)).alloc (.cells #[.bool false, .string ⟨#[]⟩, .string ⟨#[]⟩] 51)).alloc (.stringIter Z Z.size)) := fun ty => by rw [← HITER.out]; exact hnx ty
      have HSE := Lib.hid (show Seen Z.data.toList Z.data.toList.length p by rw [← hsz.out]; exact HSE.out)
      clear hnx
      by_cases hp0 : p = 0
      · subst hp0
        obtain ⟨B, hB⟩ : ∃ B, Z.extract 1 Z.size = B := ⟨_, rfl⟩
        have HOK : Hid (restL false Z.data.toList = none) := Lib.hid (by rw [HSE.out.good false]; rfl)
        clear HSE
        go_wp2_with fail
        try rw [Exit.noGoto_ret]
        exact bodyPost_ret (v := .tuple #[.agg #[.bool false, .string ByteArray.empty, .string B], .bool false]) (by simp [results, Tryd.results23, go_sem]) rfl (by rw [HOK.out]; exact ⟨below_three w _ _ _, false, false, ByteArray.empty, B, rfl, rfl⟩)
      · by_cases hpz : p = Z.size
        · subst hpz
          have hA1 : Z.toList.isEmpty = false := bempty h0
          have hA2 : ¬ Z.toList = [] := bnil h0
          by_cases hbad : 1 < Z.size ∧ Z[0] = 48
          · obtain ⟨hb1, hb2⟩ := hbad
            have u1 : ((Z[0].toNat : Int) == 48) = true := byte_eq 48 hb2
            have u1n : ((Z[0].toNat : Int) != 48) = false := by rw [bne, u1]; rfl
            have u2 : ((Z.size : Int) == 1) = false := by simp; omega
            have HOK : Hid (restL false Z.data.toList = none) := Lib.hid (by rw [HSE.out.good false, if_neg (by rw [right_zero h0 hb1 hb2]; decide)])
            clear HSE hb2
            go_wp2_with fail
            try rw [Exit.noGoto_ret]
            exact bodyPost_ret (v := .tuple #[.agg #[.bool false, .string Z, .string ⟨#[]⟩], .bool false]) (by simp [results, Tryd.results23, go_sem]) rfl (by rw [HOK.out]; exact ⟨below_three w _ _ _, false, false, Z, ⟨#[]⟩, rfl, rfl⟩)
          · have HR := Lib.hid (right_whole h0 hbad)
            have HOK : Hid (restL false Z.data.toList = some (false, Z.data.toList, [])) := Lib.hid (by rw [HSE.out.good false, if_pos HR.out]; rw [lsize, List.take_length, List.drop_of_length_le (by omega)])
            have HAL : Hid (Z.data.toList = Z.data.toList) := Lib.hid rfl
            have HBL : Hid ((ByteArray.mk #[]).data.toList = []) := Lib.hid rfl
            have hch : Z.size = 1 ∨ (1 < Z.size ∧ Z[0] ≠ 48) := by
              by_cases h1 : Z.size = 1
              · exact .inl h1
              · exact .inr ⟨by omega, fun e => hbad ⟨by omega, e⟩⟩
            clear HSE hbad
            rcases hch with h1 | ⟨h1, h2⟩
            · have u2 : ((Z.size : Int) == 1) = true := by rw [h1]; rfl
              by_cases h48 : Z[0] = 48
              · have u1 : ((Z[0].toNat : Int) == 48) = true := byte_eq 48 h48
                have u1n : ((Z[0].toNat : Int) != 48) = false := by rw [bne, u1]; rfl
                clear h48 h1
                go_wp2_with fail
                try rw [Exit.noGoto_ret]
                exact bodyPost_ret (v := .tuple #[.agg #[.bool false, .string Z, .string ⟨#[]⟩], .bool true]) (by simp [results, Tryd.results23, go_sem]) rfl (by rw [HOK.out]; exact ⟨below_three w _ _ _, false, true, Z, ⟨#[]⟩, rfl, rfl, rfl, rfl, rfl⟩)
              · have u1 : ((Z[0].toNat : Int) == 48) = false := byte_ne 48 h48
                have u1n : ((Z[0].toNat : Int) != 48) = true := by rw [bne, u1]; rfl
                clear h48 h1
                go_wp2_with fail
                try rw [Exit.noGoto_ret]
                exact bodyPost_ret (v := .tuple #[.agg #[.bool false, .string Z, .string ⟨#[]⟩], .bool true]) (by simp [results, Tryd.results23, go_sem]) rfl (by rw [HOK.out]; exact ⟨below_three w _ _ _, false, true, Z, ⟨#[]⟩, rfl, rfl, rfl, rfl, rfl⟩)
            · have u1 : ((Z[0].toNat : Int) == 48) = false := byte_ne 48 h2
              have u1n : ((Z[0].toNat : Int) != 48) = true := by rw [bne, u1]; rfl
              clear h2
              go_wp2_with fail
              try rw [Exit.noGoto_ret]
              exact bodyPost_ret (v := .tuple #[.agg #[.bool false, .string Z, .string ⟨#[]⟩], .bool true]) (by simp [results, Tryd.results23, go_sem]) rfl (by rw [HOK.out]; exact ⟨below_three w _ _ _, false, true, Z, ⟨#[]⟩, rfl, rfl, rfl, rfl, rfl⟩)
        · have hplt : p < Z.size := by omega
          have hne : ((p : Int) == (Z.size : Int)) = false := by simp; omega
          have hne2 : ¬ p = Z.size := hpz
          have hA00 := ext_zero Z p h0 (by omega) hple
          obtain ⟨A, hA⟩ : ∃ A, Z.extract 0 p = A := ⟨_, rfl⟩
          have hAs : A.size = p := by rw [← hA, lsize, ext_list, List.length_take, List.length_drop, ← lsize]; omega
          have hA0 : 0 < A.size := by omega
          have HAL : Hid (A.data.toList = Z.data.toList.take p) := Lib.hid (by rw [← hA, ext_list]; simp)
          have hA1 : A.toList.isEmpty = false := bempty hA0
          have hA2 : ¬ A.toList = [] := bnil hA0
          have HZ0 : Hid (A[0] = Z[0]) := Lib.hid (get_ext Z A p hA hA0 h0)
          obtain ⟨B, hB⟩ : ∃ B, Z.extract (p + 1) Z.size = B := ⟨_, rfl⟩
          have HBL : Hid (B.data.toList = Z.data.toList.drop (p + 1)) := Lib.hid (by rw [← hB, ext_list, List.take_of_length_le]; rw [List.length_drop, ← lsize]; omega)
          have HBS : Hid (B.size = Z.size - (p + 1)) := Lib.hid (by rw [lsize, HBL.out, List.length_drop, ← lsize])
          clear hA00 hpz
          by_cases hbad : 1 < p ∧ Z[0] = 48
          · obtain ⟨hb1, hb2⟩ := hbad
            have u1 : ((A[0].toNat : Int) == 48) = true := byte_eq 48 (by rw [HZ0.out]; exact hb2)
            have u1n : ((A[0].toNat : Int) != 48) = false := by rw [bne, u1]; rfl
            have u2 : ((p : Int) == 1) = false := by simp; omega
            have HOK : Hid (restL false Z.data.toList = none) := Lib.hid (by rw [HSE.out.good false, if_neg (by rw [right_zero h0 hb1 hb2]; decide)])
            clear HSE hb2
            go_wp2_with fail
            try rw [Exit.noGoto_ret]
            exact bodyPost_ret (v := .tuple #[.agg #[.bool false, .string A, .string B], .bool false]) (by simp [results, Tryd.results23, go_sem]) rfl (by rw [HOK.out]; exact ⟨below_three w _ _ _, false, false, A, B, rfl, rfl⟩)
          · have hch : p = 1 ∨ (1 < p ∧ Z[0] ≠ 48) := by
              by_cases h1 : p = 1
              · exact .inl h1
              · exact .inr ⟨by omega, fun e => hbad ⟨by omega, e⟩⟩
            have hmore : (B.size = 0 ∧ rightB Z.data.toList p = false) ∨ (0 < B.size ∧ rightB Z.data.toList p = true) := by
              rcases Nat.eq_zero_or_pos B.size with h | h
              · exact .inl ⟨h, right_stop (by omega) hplt (by have := HBS.out; omega)⟩
              · exact .inr ⟨h, right_more h0 (by omega) hbad (by have := HBS.out; omega)⟩
            clear hbad
            rcases hmore with ⟨hb0, hrr⟩ | ⟨hb0, hrr⟩
            · have hB1 : B.toList = [] := bzero hb0
              have HOK : Hid (restL false Z.data.toList = none) := Lib.hid (by rw [HSE.out.good false, if_neg (by rw [hrr]; decide)])
              clear HSE hrr
              rcases hch with h1 | ⟨h1, h2⟩
              · have u2 : ((p : Int) == 1) = true := by rw [h1]; rfl
                by_cases h48 : Z[0] = 48
                · have u1 : ((A[0].toNat : Int) == 48) = true := byte_eq 48 (by rw [HZ0.out]; exact h48)
                  have u1n : ((A[0].toNat : Int) != 48) = false := by rw [bne, u1]; rfl
                  clear h48 h1
                  go_wp2_with fail
                  try rw [Exit.noGoto_ret]
                  exact bodyPost_ret (v := .tuple #[.agg #[.bool false, .string A, .string B], .bool false]) (by simp [results, Tryd.results23, go_sem]) rfl (by rw [HOK.out]; exact ⟨below_three w _ _ _, false, false, A, B, rfl, rfl⟩)
                · have u1 : ((A[0].toNat : Int) == 48) = false := byte_ne 48 (by rw [HZ0.out]; exact h48)
                  have u1n : ((A[0].toNat : Int) != 48) = true := by rw [bne, u1]; rfl
                  clear h48 h1
                  go_wp2_with fail
                  try rw [Exit.noGoto_ret]
                  exact bodyPost_ret (v := .tuple #[.agg #[.bool false, .string A, .string B], .bool false]) (by simp [results, Tryd.results23, go_sem]) rfl (by rw [HOK.out]; exact ⟨below_three w _ _ _, false, false, A, B, rfl, rfl⟩)
              · have u1 : ((A[0].toNat : Int) == 48) = false := byte_ne 48 (by rw [HZ0.out]; exact h2)
                have u1n : ((A[0].toNat : Int) != 48) = true := by rw [bne, u1]; rfl
                clear h2
                go_wp2_with fail
                try rw [Exit.noGoto_ret]
                exact bodyPost_ret (v := .tuple #[.agg #[.bool false, .string A, .string B], .bool false]) (by simp [results, Tryd.results23, go_sem]) rfl (by rw [HOK.out]; exact ⟨below_three w _ _ _, false, false, A, B, rfl, rfl⟩)
            · have hB1 : B.toList.isEmpty = false := bempty hb0
              have hB2 : ¬ B.toList = [] := bnil hb0
              have HOK : Hid (restL false Z.data.toList = some (false, Z.data.toList.take p, Z.data.toList.drop (p + 1))) := Lib.hid (by rw [HSE.out.good false, if_pos hrr])
              clear HSE hrr
              rcases hch with h1 | ⟨h1, h2⟩
              · have u2 : ((p : Int) == 1) = true := by rw [h1]; rfl
                by_cases h48 : Z[0] = 48
                · have u1 : ((A[0].toNat : Int) == 48) = true := byte_eq 48 (by rw [HZ0.out]; exact h48)
                  have u1n : ((A[0].toNat : Int) != 48) = false := by rw [bne, u1]; rfl
                  clear h48 h1
                  go_wp2_with fail
                  try rw [Exit.noGoto_ret]
                  exact bodyPost_ret (v := .tuple #[.agg #[.bool false, .string A, .string B], .bool true]) (by simp [results, Tryd.results23, go_sem]) rfl (by rw [HOK.out]; exact ⟨below_three w _ _ _, false, true, A, B, rfl, rfl, rfl, HAL.out, HBL.out⟩)
                · have u1 : ((A[0].toNat : Int) == 48) = false := byte_ne 48 (by rw [HZ0.out]; exact h48)
                  have u1n : ((A[0].toNat : Int) != 48) = true := by rw [bne, u1]; rfl
                  clear h48 h1
                  go_wp2_with fail
                  try rw [Exit.noGoto_ret]
                  exact bodyPost_ret (v := .tuple #[.agg #[.bool false, .string A, .string B], .bool true]) (by simp [results, Tryd.results23, go_sem]) rfl (by rw [HOK.out]; exact ⟨below_three w _ _ _, false, true, A, B, rfl, rfl, rfl, HAL.out, HBL.out⟩)
              · have u1 : ((A[0].toNat : Int) == 48) = false := byte_ne 48 (by rw [HZ0.out]; exact h2)
                have u1n : ((A[0].toNat : Int) != 48) = true := by rw [bne, u1]; rfl
                clear h2
                go_wp2_with fail
                try rw [Exit.noGoto_ret]
                exact bodyPost_ret (v := .tuple #[.agg #[.bool false, .string A, .string B], .bool true]) (by simp [results, Tryd.results23, go_sem]) rfl (by rw [HOK.out]; exact ⟨below_three w _ _ _, false, true, A, B, rfl, rfl, rfl, HAL.out, HBL.out⟩)
end Go.Proofs.YtfpmchhpejncpaaDoor
