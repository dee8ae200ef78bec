/- Link: the document's line: what only reads. -/
import Derived.Test.YtklkhlipecphkaaLr
namespace Go.Proofs.Ytklkhlipecphkaa
open Go.RowKit Go.Joins Go.Maps
set_option maxRecDepth 100000
set_option linter.unusedVariables false

theorem rAsked_any {N C : Nat} {nodes most : Int} {va : Value} {rs : List Ml} {w : World} (h : RH N C nodes most va rs w) (a b : Int) :
    Calls Try.prog 61 #[.pointer (some ⟨C, 0, none⟩), .int .i64 a, .int .i64 b] w fun e w' => e = .returned (.int .i64 (cAsk nodes a b)) ∧ w' = w := by
  have c0 := h.c0
  clear h
  by_cases h1 : a < 0
  · have d1 : decide (a < 0) = true := decide_eq_true h1
    have e : cAsk nodes a b = 190 := if_neg (fun o => by have := o.a0; omega)
    have HE := Lib.hid e
    clear h1 e
    go_enter Try.func61, Try.ntmps61
    go_wp2_with fail
    go_ret
    exact ⟨by rw [HE.out]; rfl, rfl⟩
  have d1 : decide (a < 0) = false := decide_eq_false h1
  by_cases h2 : b < 0
  · have d2 : decide (b < 0) = true := decide_eq_true h2
    have e : cAsk nodes a b = 190 := if_neg (fun o => by have := o.b0; omega)
    have HE := Lib.hid e
    clear h1 h2 e
    go_enter Try.func61, Try.ntmps61
    go_wp2_with fail
    go_ret
    exact ⟨by rw [HE.out]; rfl, rfl⟩
  have d2 : decide (b < 0) = false := decide_eq_false h2
  by_cases h3 : nodes ≤ a
  · have d3 : decide (nodes ≤ a) = true := decide_eq_true h3
    have e : cAsk nodes a b = 190 := if_neg (fun o => by have := o.a1; omega)
    have HE := Lib.hid e
    clear h1 h2 h3 e
    go_enter Try.func61, Try.ntmps61
    go_wp2_with fail
    go_ret
    exact ⟨by rw [HE.out]; rfl, rfl⟩
  have d3 : decide (nodes ≤ a) = false := decide_eq_false h3
  by_cases h4 : nodes ≤ b
  · have d4 : decide (nodes ≤ b) = true := decide_eq_true h4
    have e : cAsk nodes a b = 190 := if_neg (fun o => by have := o.b1; omega)
    have HE := Lib.hid e
    clear h1 h2 h3 h4 e
    go_enter Try.func61, Try.ntmps61
    go_wp2_with fail
    go_ret
    exact ⟨by rw [HE.out]; rfl, rfl⟩
  have d4 : decide (nodes ≤ b) = false := decide_eq_false h4
  by_cases h5 : a = b
  · have d5 : (a == b) = true := by simpa using h5
    have d6 : decide (a = b) = true := decide_eq_true h5
    have e : cAsk nodes a b = 190 := if_neg (fun o => o.ne h5)
    have HE := Lib.hid e
    clear h1 h2 h3 h4 h5 e
    go_enter Try.func61, Try.ntmps61
    go_wp2_with fail
    go_ret
    exact ⟨by rw [HE.out]; rfl, rfl⟩
  · have d5 : (a == b) = false := by simpa using h5
    have d6 : decide (a = b) = false := decide_eq_false h5
    have e : cAsk nodes a b = 0 := if_pos ⟨by omega, by omega, by omega, by omega, h5⟩
    have HE := Lib.hid e
    clear h1 h2 h3 h4 h5 e
    go_enter Try.func61, Try.ntmps61
    go_wp2_with fail
    go_ret
    exact ⟨by rw [HE.out]; rfl, rfl⟩

theorem take_ml {rs : List Ml} {k : Nat} {m : Ml} (h : rs[k]? = some m) : rs.take (k + 1) = rs.take k ++ [m] := by
  obtain ⟨hl, e⟩ := List.getElem?_eq_some_iff.1 h
  rw [List.take_succ_eq_append_getElem hl, e]
def cnt (rs : List Ml) (a b : Int) (k : Nat) : Nat := ((rs.take k).filter (wayM a b)).length
theorem cnt_zero (rs : List Ml) (a b : Int) : cnt rs a b 0 = 0 := by simp [cnt]
theorem cnt_yes {rs : List Ml} {a b : Int} {k : Nat} {m : Ml} (h : rs[k]? = some m) (hw : wayM a b m = true) : cnt rs a b (k + 1) = cnt rs a b k + 1 := by simp [cnt, take_ml h, hw]
theorem cnt_no {rs : List Ml} {a b : Int} {k : Nat} {m : Ml} (h : rs[k]? = some m) (hw : wayM a b m = false) : cnt rs a b (k + 1) = cnt rs a b k := by simp [cnt, take_ml h, hw]
theorem cnt_le (rs : List Ml) (a b : Int) (k : Nat) : cnt rs a b k ≤ k := by
  have := List.length_filter_le (wayM a b) (rs.take k)
  have := List.length_take_le k rs
  unfold cnt; omega
theorem cnt_all (rs : List Ml) (a b : Int) : cnt rs a b rs.length = nw (abs rs) a b := by simp [cnt, nw, abs_filter]
theorem get_some {rs : List Ml} {k : Nat} (h : k < rs.length) : ∃ m, rs[k]? = some m := ⟨_, List.getElem?_eq_getElem h⟩

set_option maxHeartbeats 2000000 in
theorem rWaits_any {N C : Nat} {nodes most : Int} {va : Value} {rs : List Ml} {w : World} (h : RH N C nodes most va rs w) (a b : Int) (hl : rs.length ≤ 1000) :
    Calls Try.prog 40 #[.pointer (some ⟨C, 0, none⟩), .int .i64 a, .int .i64 b] w fun e w' => e = .returned (.int .i64 (nw (abs rs) a b)) ∧ w' = w := by
  obtain ⟨oa, cap, rfl, hc⟩ := h.slice
  have c2 := h.c2
  have HC := Lib.hid hc
  have HW := Lib.hid (cnt_all rs a b)
  clear h hc
  obtain ⟨n, hn⟩ : ∃ n, n = rs.length := ⟨_, rfl⟩
  rw [← hn] at hl c2 HW
  have HN := Lib.hid hn
  clear hn
  go_enter Try.func40, Try.ntmps40
  go_wp2_with fail
  go_loopw [7, 8] (fun q i wr => ∃ k : Nat, k ≤ n ∧ i = .int .i64 (k : Int) ∧ q = .int .i64 ((cnt rs a b k : Nat) : Int) ∧ wr = w) (fun _ i _ => n - (intOf i).toNat)
  case atStart => exact ⟨0, Nat.zero_le _, rfl, by rw [cnt_zero]; rfl, rfl⟩
  case round =>
    obtain ⟨k, hk, rfl, rfl, rfl⟩ := hrel
    by_cases hlt : k < n
    · obtain ⟨m, hm⟩ := get_some (rs := rs) (k := k) (by rw [← HN.out]; exact hlt)
      obtain ⟨g, rfl, x0, x1, x2⟩ := HC.out k m hm
      have HM := Lib.hid hm
      have hle := cnt_le rs a b k
      obtain ⟨q, hq⟩ : ∃ q, q = cnt rs a b k := ⟨_, rfl⟩
      rw [← hq] at hle ⊢
      have HQ := Lib.hid hq
      obtain ⟨f, t, L, v⟩ := m
      clear hm x2 hq
      dsimp only at x0 x1
      by_cases hf : f = a
      · have e1 : (f == a) = true := by simp [hf]
        have e2 : decide (f = a) = true := by simp [hf]
        by_cases ht : t = b
        · have e3 : (t == b) = true := by simp [ht]
          have e4 : decide (t = b) = true := by simp [ht]
          have HY := Lib.hid (cnt_yes HM.out (wayM_iff.2 ⟨hf, ht⟩))
          clear hf ht
          go_wp2_with fail
          go_roundw
          case rel => exact ⟨k + 1, by omega, by go_num, by rw [HY.out, ← HQ.out]; go_num, trivial⟩
          case measure => simp [intOf]; omega
        · have e3 : (t == b) = false := by simp [ht]
          have e4 : decide (t = b) = false := by simp [ht]
          have HY := Lib.hid (cnt_no (a := a) (b := b) HM.out (by rw [← Bool.not_eq_true, wayM_iff]; exact fun o => ht o.2))
          clear hf ht
          go_wp2_with fail
          go_roundw
          case rel => exact ⟨k + 1, by omega, by go_num, by rw [HY.out, ← HQ.out], trivial⟩
          case measure => simp [intOf]; omega
      · have e1 : (f == a) = false := by simp [hf]
        have e2 : decide (f = a) = false := by simp [hf]
        have HY := Lib.hid (cnt_no (a := a) (b := b) HM.out (by rw [← Bool.not_eq_true, wayM_iff]; exact fun o => hf o.1))
        clear hf
        go_wp2_with fail
        go_roundw
        case rel => exact ⟨k + 1, by omega, by go_num, by rw [HY.out, ← HQ.out], trivial⟩
        case measure => simp [intOf]; omega
    · have hkn : k = n := by omega
      have HKN := Lib.hid hkn
      clear hkn
      go_wp2_with fail
      go_ret
      exact ⟨by rw [HKN.out, HW.out]; rfl, rfl⟩

def posZ (a b i : Int) (A : List Ab) : Int := match posI a b i A with
  | some k => (k : Int)
  | none => -1
theorem posZ_of {rs : List Ml} {a b : Int} {i k : Nat} (h : pos (wayM a b) rs i = some k) : posZ a b (i : Int) (abs rs) = k := by
  unfold posZ posI
  rw [if_neg (by omega), abs_pos, Int.toNat_natCast, h]
theorem posZ_none {rs : List Ml} {a b : Int} {i : Nat} (h : pos (wayM a b) rs i = none) : posZ a b (i : Int) (abs rs) = -1 := by
  unfold posZ posI
  rw [if_neg (by omega), abs_pos, Int.toNat_natCast, h]
theorem drop_ml {rs : List Ml} {k : Nat} {m : Ml} (h : rs[k]? = some m) : rs.drop k = m :: rs.drop (k + 1) := by
  obtain ⟨hl, e⟩ := List.getElem?_eq_some_iff.1 h
  rw [List.drop_eq_getElem_cons hl, e]
def AtRel (rs : List Ml) (a b : Int) (i k j : Nat) : Prop := pos (wayM a b) rs i = (pos (wayM a b) (rs.drop k) j).map (· + k)
theorem AtRel.start (rs : List Ml) (a b : Int) (i : Nat) : AtRel rs a b i 0 i := by simp [AtRel]
theorem AtRel.hit {rs : List Ml} {a b : Int} {i k : Nat} {m : Ml} (h : AtRel rs a b i k 0) (hm : rs[k]? = some m) (hw : wayM a b m = true) : pos (wayM a b) rs i = some k := by
  rw [h, drop_ml hm, pos_zero _ hw]; simp
theorem AtRel.yes {rs : List Ml} {a b : Int} {i k j : Nat} {m : Ml} (h : AtRel rs a b i k (j + 1)) (hm : rs[k]? = some m) (hw : wayM a b m = true) : AtRel rs a b i (k + 1) j := by
  rw [AtRel, h, drop_ml hm, pos_succ _ _ hw, Option.map_map]
  congr 1
  funext x; simp only [Function.comp]; omega
theorem AtRel.no {rs : List Ml} {a b : Int} {i k j : Nat} {m : Ml} (h : AtRel rs a b i k j) (hm : rs[k]? = some m) (hw : wayM a b m = false) : AtRel rs a b i (k + 1) j := by
  rw [AtRel, h, drop_ml hm, pos_skip _ _ hw, Option.map_map]
  congr 1
  funext x; simp only [Function.comp]; omega
theorem AtRel.end {rs : List Ml} {a b : Int} {i j : Nat} (h : AtRel rs a b i rs.length j) : pos (wayM a b) rs i = none := by
  rw [h]; simp [pos]

theorem rAt_neg {N C : Nat} {nodes most : Int} {va : Value} {rs : List Ml} {w : World} (h : RH N C nodes most va rs w) (a b : Int) {i : Int} (hi : i < 0) :
    Calls Try.prog 59 #[.pointer (some ⟨C, 0, none⟩), .int .i64 a, .int .i64 b, .int .i64 i] w fun e w' => e = .returned (.int .i64 (posZ a b i (abs rs))) ∧ w' = w := by
  have e : posZ a b i (abs rs) = -1 := by unfold posZ posI; rw [if_pos hi]
  have HE := Lib.hid e
  have d1 : decide (i < 0) = true := decide_eq_true hi
  clear h e hi
  go_enter Try.func59, Try.ntmps59
  go_wp2_with fail
  go_ret
  exact ⟨by rw [HE.out]; rfl, rfl⟩
set_option maxHeartbeats 2000000 in
theorem rAt_nat {N C : Nat} {nodes most : Int} {va : Value} {rs : List Ml} {w : World} (h : RH N C nodes most va rs w) (a b : Int) (i : Nat) (hi : (i : Int) ≤ 9223372036854775807) (hl : rs.length ≤ 1000) :
    Calls Try.prog 59 #[.pointer (some ⟨C, 0, none⟩), .int .i64 a, .int .i64 b, .int .i64 (i : Int)] w fun e w' => e = .returned (.int .i64 (posZ a b i (abs rs))) ∧ w' = w := by
  obtain ⟨oa, cap, rfl, hc⟩ := h.slice
  have c2 := h.c2
  have HC := Lib.hid hc
  clear h hc
  obtain ⟨n, hn⟩ : ∃ n, n = rs.length := ⟨_, rfl⟩
  rw [← hn] at hl c2
  have HN := Lib.hid hn
  clear hn
  have d0 : decide ((i : Int) < 0) = false := decide_eq_false (by omega)
  go_enter Try.func59, Try.ntmps59
  go_wp2_with fail
  clear d0
  go_loopw [3, 9] (fun q x wr => ∃ k j : Nat, k ≤ n ∧ j ≤ i ∧ x = .int .i64 (k : Int) ∧ q = .int .i64 (j : Int) ∧ AtRel rs a b i k j ∧ wr = w) (fun _ x _ => n - (intOf x).toNat)
  case atStart => exact ⟨0, i, Nat.zero_le _, Nat.le_refl _, rfl, rfl, AtRel.start rs a b i, rfl⟩
  case round =>
    obtain ⟨k, j, hk, hj, rfl, rfl, hat, rfl⟩ := hrel
    have HA := Lib.hid hat
    clear hat
    by_cases hlt : k < n
    · obtain ⟨m, hm⟩ := get_some (rs := rs) (k := k) (by rw [← HN.out]; exact hlt)
      obtain ⟨g, rfl, x0, x1, x2⟩ := HC.out k m hm
      have HM := Lib.hid hm
      obtain ⟨f, t, L, v⟩ := m
      clear hm x2
      dsimp only at x0 x1
      by_cases hf : f = a
      · have e1 : (f == a) = true := by simp [hf]
        have e2 : decide (f = a) = true := by simp [hf]
        by_cases ht : t = b
        · have e3 : (t == b) = true := by simp [ht]
          have e4 : decide (t = b) = true := by simp [ht]
          have hw : Hid (wayM a b ⟨f, t, L, v⟩ = true) := Lib.hid (wayM_iff.2 ⟨hf, ht⟩)
          clear hf ht
          cases j with
          | zero =>
            have z1 : (((0 : Nat) : Int) == 0) = true := rfl
            go_wp2_with fail
            go_ret
            exact ⟨by rw [posZ_of (HA.out.hit HM.out hw.out)]; rfl, rfl⟩
          | succ j =>
            have z1 : (((j + 1 : Nat) : Int) == 0) = false := by simp; omega
            have z2 : decide (((j + 1 : Nat) : Int) = 0) = false := by simp; omega
            go_wp2_with fail
            go_roundw
            case rel => exact ⟨k + 1, j, by omega, by omega, by go_num, by go_num, HA.out.yes HM.out hw.out, trivial⟩
            case measure => simp [intOf]; omega
        · have e3 : (t == b) = false := by simp [ht]
          have e4 : decide (t = b) = false := by simp [ht]
          have hw : Hid (wayM a b ⟨f, t, L, v⟩ = false) := Lib.hid (by rw [← Bool.not_eq_true, wayM_iff]; exact fun o => ht o.2)
          clear hf ht
          go_wp2_with fail
          go_roundw
          case rel => exact ⟨k + 1, j, by omega, by omega, by go_num, rfl, HA.out.no HM.out hw.out, trivial⟩
          case measure => simp [intOf]; omega
      · have e1 : (f == a) = false := by simp [hf]
        have e2 : decide (f = a) = false := by simp [hf]
        have hw : Hid (wayM a b ⟨f, t, L, v⟩ = false) := Lib.hid (by rw [← Bool.not_eq_true, wayM_iff]; exact fun o => hf o.1)
        clear hf
        go_wp2_with fail
        go_roundw
        case rel => exact ⟨k + 1, j, by omega, by omega, by go_num, rfl, HA.out.no HM.out hw.out, trivial⟩
        case measure => simp [intOf]; omega
    · have hkn : k = n := by omega
      have HKN := Lib.hid hkn
      clear hkn
      go_wp2_with fail
      go_ret
      exact ⟨by rw [posZ_none (AtRel.end (by have := HA.out; rw [HKN.out, HN.out] at this; exact this))]; rfl, rfl⟩
theorem rAt_any {N C : Nat} {nodes most : Int} {va : Value} {rs : List Ml} {w : World} (h : RH N C nodes most va rs w) (a b : Int) {i : Int} (hi : (Lit.int .i64 i).wf = true) (hl : rs.length ≤ 1000) :
    Calls Try.prog 59 #[.pointer (some ⟨C, 0, none⟩), .int .i64 a, .int .i64 b, .int .i64 i] w fun e w' => e = .returned (.int .i64 (posZ a b i (abs rs))) ∧ w' = w := by
  by_cases h0 : i < 0
  · exact rAt_neg h a b h0
  · obtain ⟨j, rfl⟩ : ∃ j : Nat, i = j := ⟨i.toNat, by omega⟩
    exact rAt_nat h a b j (small_wf hi).2 hl

set_option maxHeartbeats 1000000 in
theorem rNamed_any {N C : Nat} {nodes most : Int} {va : Value} {rs : List Ml} {w : World} (h : RH N C nodes most va rs w) (a b : Int) {i : Int} (hi : (Lit.int .i64 i).wf = true) (hl : rs.length ≤ 1000) :
    Calls Try.prog 58 #[.pointer (some ⟨C, 0, none⟩), .int .i64 a, .int .i64 b, .int .i64 i] w fun e w' => e = .returned (.int .i64 (cName nodes (abs rs) a b i)) ∧ w' = w := by
  have HA := Lib.hid (rAsked_any h a b); have HT := Lib.hid (rAt_any h a b hi hl)
  clear h
  by_cases ho : OkW nodes a b
  · have e0 : cAsk nodes a b = 0 := if_pos ho
    cases hp : posI a b i (abs rs) with
    | none =>
      have e1 : cName nodes (abs rs) a b i = 191 := by rw [cName, if_pos ho, hp]; rfl
      have e2 : posZ a b i (abs rs) = -1 := by unfold posZ; rw [hp]
      have HE := Lib.hid e1
      rw [e2] at HT
      rw [e0] at HA
      clear e0 e1 e2 hp ho
      go_enter Try.func58, Try.ntmps58
      go_wp2_with fail
      refine HA.out.mono ?_
      rintro e w1 ⟨rfl, rfl⟩
      go_wp2_with fail
      refine HT.out.mono ?_
      rintro e w1 ⟨rfl, rfl⟩
      go_wp2_with fail
      go_ret
      exact ⟨by rw [HE.out]; rfl, rfl⟩
    | some k =>
      have e1 : cName nodes (abs rs) a b i = 0 := by rw [cName, if_pos ho, hp]; rfl
      have e2 : posZ a b i (abs rs) = k := by unfold posZ; rw [hp]
      have HE := Lib.hid e1
      rw [e2] at HT
      rw [e0] at HA
      have dk : decide ((k : Int) < 0) = false := decide_eq_false (by omega)
      clear e0 e1 e2 hp ho
      go_enter Try.func58, Try.ntmps58
      go_wp2_with fail
      refine HA.out.mono ?_
      rintro e w1 ⟨rfl, rfl⟩
      go_wp2_with fail
      refine HT.out.mono ?_
      rintro e w1 ⟨rfl, rfl⟩
      go_wp2_with fail
      go_ret
      exact ⟨by rw [HE.out]; rfl, rfl⟩
  · have e0 : cAsk nodes a b = 190 := if_neg ho
    have e1 : cName nodes (abs rs) a b i = 190 := if_neg ho
    have HE := Lib.hid e1
    rw [e0] at HA
    clear e0 e1 ho HT
    go_enter Try.func58, Try.ntmps58
    go_wp2_with fail
    refine HA.out.mono ?_
    rintro e w1 ⟨rfl, rfl⟩
    go_wp2_with fail
    go_ret
    exact ⟨by rw [HE.out]; rfl, rfl⟩

def best (rs : List Ml) (to : Int) (k : Nat) (x : Int) : Prop := (x = -1 ∧ ∀ m ∈ rs.take k, m.t ≠ to) ∨ ((∃ m ∈ rs.take k, m.t = to ∧ m.f = x) ∧ ∀ m ∈ rs.take k, m.t = to → x ≤ m.f)
theorem best_zero (rs : List Ml) (to : Int) : best rs to 0 (-1) := .inl ⟨rfl, by simp⟩
theorem best_no {rs : List Ml} {to x : Int} {k : Nat} {m : Ml} (h : best rs to k x) (hm : rs[k]? = some m) (ht : m.t ≠ to) : best rs to (k + 1) x := by
  unfold best at h ⊢
  rw [take_ml hm]
  rcases h with ⟨rfl, h⟩ | ⟨⟨q, hq, h1, h2⟩, h⟩
  · exact .inl ⟨rfl, fun z hz => by
      rcases List.mem_append.1 hz with hz | hz
      · exact h z hz
      · obtain rfl := List.mem_singleton.1 hz; exact ht⟩
  · exact .inr ⟨⟨q, List.mem_append.2 (.inl hq), h1, h2⟩, fun z hz hzt => by
      rcases List.mem_append.1 hz with hz | hz
      · exact h z hz hzt
      · obtain rfl := List.mem_singleton.1 hz; exact absurd hzt ht⟩
theorem best_low {rs : List Ml} {to x : Int} {k : Nat} {m : Ml} (h : best rs to k x) (hm : rs[k]? = some m) (ht : m.t = to) (hx : x < 0 ∨ m.f < x) (h0 : ∀ z ∈ rs, 0 ≤ z.f) : best rs to (k + 1) m.f := by
  unfold best at h ⊢
  rw [take_ml hm]
  refine .inr ⟨⟨m, by simp, ht, rfl⟩, fun z hz hzt => ?_⟩
  rcases List.mem_append.1 hz with hz | hz
  · rcases h with ⟨rfl, h⟩ | ⟨⟨q, hq, h1, h2⟩, h⟩
    · exact absurd hzt (h z hz)
    · have := h z hz hzt
      have := h0 q (List.mem_of_mem_take hq)
      omega
  · obtain rfl := List.mem_singleton.1 hz; exact Int.le_refl _
theorem best_high {rs : List Ml} {to x : Int} {k : Nat} {m : Ml} (h : best rs to k x) (hm : rs[k]? = some m) (h1 : 0 ≤ x) (hx : x ≤ m.f) : best rs to (k + 1) x := by
  unfold best at h ⊢
  rw [take_ml hm]
  rcases h with ⟨rfl, h⟩ | ⟨⟨q, hq, h1, h2⟩, h⟩
  · omega
  · exact .inr ⟨⟨q, List.mem_append.2 (.inl hq), h1, h2⟩, fun z hz hzt => by
      rcases List.mem_append.1 hz with hz | hz
      · exact h z hz hzt
      · obtain rfl := List.mem_singleton.1 hz; exact hx⟩
theorem best_from {rs : List Ml} {to x : Int} (h : best rs to rs.length x) (h0 : ∀ z ∈ rs, 0 ≤ z.f) : IsFrom (abs rs) to (max x 0) (decide (0 ≤ x)) := by
  unfold best at h
  rw [List.take_length] at h
  rcases h with ⟨rfl, h⟩ | ⟨⟨q, hq, h1, h2⟩, h⟩
  · exact .inl ⟨rfl, rfl, fun m hm => by
      obtain ⟨z, hz, rfl⟩ := List.mem_map.1 hm
      exact h z hz⟩
  · have hx : 0 ≤ x := by have := h0 q hq; omega
    have hm : max x 0 = x := by omega
    rw [hm]
    exact .inr ⟨decide_eq_true hx, ⟨q.ab, List.mem_map.2 ⟨q, hq, rfl⟩, h1, h2⟩, fun m hm ht => by
      obtain ⟨z, hz, rfl⟩ := List.mem_map.1 hm
      exact h z hz ht⟩

set_option maxHeartbeats 2000000 in
theorem rNext_any {N C : Nat} {nodes most : Int} {va : Value} {rs : List Ml} {w : World} (h : RH N C nodes most va rs w) (to : Int) (hl : rs.length ≤ 1000) (h0 : ∀ z ∈ rs, 0 ≤ z.f) :
    Calls Try.prog 57 #[.pointer (some ⟨C, 0, none⟩), .int .i64 to] w fun e w' => ∃ x, e = .returned (.int .i64 x) ∧ best rs to rs.length x ∧ w' = w := by
  obtain ⟨oa, cap, rfl, hc⟩ := h.slice
  have c2 := h.c2
  have HC := Lib.hid hc
  have H0 := Lib.hid h0
  clear h hc h0
  obtain ⟨n, hn⟩ : ∃ n, n = rs.length := ⟨_, rfl⟩
  rw [← hn] at hl c2
  have HN := Lib.hid hn
  clear hn
  go_enter Try.func57, Try.ntmps57
  go_wp2_with fail
  go_loopw [5, 6] (fun q i wr => ∃ (k : Nat) (x : Int), k ≤ n ∧ i = .int .i64 (k : Int) ∧ q = .int .i64 x ∧ best rs to k x ∧ wr = w) (fun _ i _ => n - (intOf i).toNat)
  case atStart => exact ⟨0, -1, Nat.zero_le _, rfl, rfl, best_zero rs to, rfl⟩
  case round =>
    obtain ⟨k, x, hk, rfl, rfl, hbest, rfl⟩ := hrel
    have HBE := Lib.hid hbest
    clear hbest
    by_cases hlt : k < n
    · obtain ⟨m, hm⟩ := get_some (rs := rs) (k := k) (by rw [← HN.out]; exact hlt)
      obtain ⟨g, rfl, x0, x1, x2⟩ := HC.out k m hm
      have HM := Lib.hid hm
      obtain ⟨f, t, L, v⟩ := m
      clear hm x2
      dsimp only at x0 x1
      by_cases ht : t = to
      · have e3 : (t == to) = true := by simp [ht]
        have e4 : decide (t = to) = true := by simp [ht]
        have HT := Lib.hid ht
        clear ht
        by_cases hx : x < 0
        · have e5 : decide (x < 0) = true := decide_eq_true hx
          have HY := Lib.hid (best_low HBE.out HM.out HT.out (.inl hx) H0.out)
          go_wp2_with fail
          go_roundw
          case rel => exact ⟨k + 1, f, by omega, by go_num, rfl, HY.out, trivial⟩
          case measure => simp [intOf]; omega
        · have e5 : decide (x < 0) = false := decide_eq_false hx
          by_cases hfx : f < x
          · have e6 : decide (f < x) = true := decide_eq_true hfx
            have HY := Lib.hid (best_low HBE.out HM.out HT.out (.inr hfx) H0.out)
            go_wp2_with fail
            go_roundw
            case rel => exact ⟨k + 1, f, by omega, by go_num, rfl, HY.out, trivial⟩
            case measure => simp [intOf]; omega
          · have e6 : decide (f < x) = false := decide_eq_false hfx
            have HY := Lib.hid (best_high HBE.out HM.out (by omega) (by show x ≤ f; omega))
            go_wp2_with fail
            go_roundw
            case rel => exact ⟨k + 1, x, by omega, by go_num, rfl, HY.out, trivial⟩
            case measure => simp [intOf]; omega
      · have e3 : (t == to) = false := by simp [ht]
        have e4 : decide (t = to) = false := by simp [ht]
        have HY := Lib.hid (best_no HBE.out HM.out ht)
        clear ht
        go_wp2_with fail
        go_roundw
        case rel => exact ⟨k + 1, x, by omega, by go_num, rfl, HY.out, trivial⟩
        case measure => simp [intOf]; omega
    · have hkn : k = n := by omega
      have HKN := Lib.hid hkn
      clear hkn
      go_wp2_with fail
      go_ret
      exact ⟨x, rfl, by have := HBE.out; rw [HKN.out, HN.out] at this; exact this, rfl⟩

def lenTo (rs : List Ml) (k : Nat) : Nat := ((rs.take k).map fun m => m.L.length).sum
theorem lenTo_zero (rs : List Ml) : lenTo rs 0 = 0 := by simp [lenTo]
theorem lenTo_succ {rs : List Ml} {k : Nat} {m : Ml} (h : rs[k]? = some m) : lenTo rs (k + 1) = lenTo rs k + m.L.length := by simp [lenTo, take_ml h]
theorem lenTo_le {rs : List Ml} (h : ∀ m ∈ rs, m.L.length ≤ 300) : ∀ k, k ≤ rs.length → lenTo rs k ≤ 300 * k
  | 0, _ => by simp [lenTo]
  | k + 1, hk => by
    obtain ⟨m, hm⟩ := get_some (rs := rs) (k := k) (by omega)
    rw [lenTo_succ hm]
    have := lenTo_le h k (by omega)
    have := h m (List.mem_of_getElem? hm)
    omega
theorem lenTo_all (rs : List Ml) : ((lenTo rs rs.length : Nat) : Int) = sumA (abs rs) := by
  unfold lenTo sumA abs
  rw [List.take_length, List.map_map]
  rfl
set_option maxHeartbeats 2000000 in
theorem rBytes_any {N C : Nat} {nodes most : Int} {va : Value} {rs : List Ml} {w : World} (h : RH N C nodes most va rs w) (hl : rs.length ≤ 1000) (h300 : ∀ m ∈ rs, m.L.length ≤ 300) :
    Calls Try.prog 42 #[.pointer (some ⟨C, 0, none⟩)] w fun e w' => e = .returned (.int .i64 (sumA (abs rs))) ∧ w' = w := by
  obtain ⟨oa, cap, rfl, hc⟩ := h.slice
  have c2 := h.c2
  have HC := Lib.hid hc
  have H3 := Lib.hid h300
  have HR := Lib.hid h.msg
  have HL := Lib.hid (lenTo_all rs)
  clear h hc h300
  obtain ⟨n, hn⟩ : ∃ n, n = rs.length := ⟨_, rfl⟩
  rw [← hn] at hl c2 HL
  have HN := Lib.hid hn
  clear hn
  go_enter Try.func42, Try.ntmps42
  go_wp2_with fail
  go_loopw [3, 4] (fun q i wr => ∃ k : Nat, k ≤ n ∧ i = .int .i64 (k : Int) ∧ q = .int .i64 ((lenTo rs k : Nat) : Int) ∧ wr = w) (fun _ i _ => n - (intOf i).toNat)
  case atStart => exact ⟨0, Nat.zero_le _, rfl, by rw [lenTo_zero]; rfl, rfl⟩
  case round =>
    obtain ⟨k, hk, rfl, rfl, rfl⟩ := hrel
    by_cases hlt : k < n
    · obtain ⟨m, hm⟩ := get_some (rs := rs) (k := k) (by rw [← HN.out]; exact hlt)
      obtain ⟨g, rfl, x0, x1, x2⟩ := HC.out k m hm
      have hown := HR.out m (List.mem_of_getElem? hm)
      have hm3 := H3.out m (List.mem_of_getElem? hm)
      have HY := Lib.hid (lenTo_succ hm)
      have hle := lenTo_le H3.out k (by rw [← HN.out]; omega)
      obtain ⟨q, hq⟩ : ∃ q, q = lenTo rs k := ⟨_, rfl⟩
      rw [← hq] at hle ⊢
      have HQ := Lib.hid hq
      obtain ⟨f, t, L, v⟩ := m
      dsimp only at x2 hown HY hm3
      rw [by8_len] at hown
      obtain ⟨z, hz⟩ : ∃ z, z = L.length := ⟨_, rfl⟩
      rw [← hz] at hown HY hm3
      obtain ⟨ov, cv, rfl⟩ : ∃ ov cv, v = .slice ov z cv := by
        rcases ownsRow_forms hown with ⟨h, h0⟩ | ⟨g, cp, h⟩
        · exact ⟨none, 0, by rw [h, h0]⟩
        · exact ⟨_, cp, h⟩
      clear hm x0 x1 hq hown hz
      go_wp2_with fail
      go_roundw
      case rel => exact ⟨k + 1, by omega, by go_num, by rw [HY.out, ← HQ.out]; go_num, trivial⟩
      case measure => simp [intOf]; omega
    · have hkn : k = n := by omega
      have HKN := Lib.hid hkn
      clear hkn
      go_wp2_with fail
      go_ret
      exact ⟨by rw [HKN.out, HL.out]; rfl, rfl⟩
end Go.Proofs.Ytklkhlipecphkaa
