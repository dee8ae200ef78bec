/- Digits: a number's text, of the document. -/
import Derived.Test.YtfpmchhpejncpaaDoorB
import Derived.Lib.LaidTab
import Derived.Lib.AppendIntMem
namespace Go.Proofs.YtfpmchhpejncpaaDoor
open Go.RowKit
set_option maxRecDepth 100000
set_option linter.unusedVariables false

/-- The digits of a fraction of 2^32. -/
def frac : Nat → Nat → List UInt8
  | 0, _ => []
  | n + 1, r => if r = 0 then [] else dch (10 * r / 4294967296) :: frac n (10 * r % 4294967296)
theorem frac_zero : ∀ n, frac n 0 = []
  | 0 => rfl
  | n + 1 => by simp [frac]
theorem frac_succ {n r : Nat} (h : r ≠ 0) : frac (n + 1) r = dch (10 * r / 4294967296) :: frac n (10 * r % 4294967296) := by simp [frac, h]
theorem frac_len : ∀ n r, (frac n r).length ≤ n
  | 0, r => by simp [frac]
  | n + 1, r => by
    unfold frac
    split
    · simp
    · have := frac_len n (10 * r % 4294967296)
      simp; omega
/-- What is left of a fraction behind j digits. -/
structure Rest (j r : Nat) : Prop where
  le : j ≤ 32
  lt : r < 4294967296
  dvd : 2 ^ j ∣ r
theorem Rest.start {r : Nat} (h : r < 4294967296) : Rest 0 r := ⟨by omega, h, ⟨r, by omega⟩⟩
theorem Rest.more {j r : Nat} (h : Rest j r) (h0 : r ≠ 0) : j < 32 := by
  rcases Nat.lt_or_ge j 32 with h1 | h1
  · exact h1
  · have e : j = 32 := by have := h.le; omega
    have hd := h.dvd
    rw [e] at hd
    have := Nat.le_of_dvd (by omega) hd
    have := h.lt
    omega
theorem Rest.next {j r : Nat} (h : Rest j r) (h0 : r ≠ 0) : Rest (j + 1) (10 * r % 4294967296) := by
  have hj := h.more h0
  refine ⟨hj, Nat.mod_lt _ (by omega), ?_⟩
  have h1 : 2 ^ (j + 1) ∣ 10 * r := by
    obtain ⟨q, hq⟩ := h.dvd
    refine ⟨5 * q, ?_⟩
    rw [hq, Nat.pow_succ, Nat.mul_assoc, Nat.mul_comm 2 (5 * q), show 5 * q * 2 = 10 * q by omega]
    rw [← Nat.mul_assoc, ← Nat.mul_assoc, Nat.mul_comm 10]
  have h2 : 2 ^ (j + 1) ∣ 4294967296 := by
    rw [show (4294967296 : Nat) = 2 ^ 32 by decide]
    exact Nat.pow_dvd_pow 2 hj
  exact (Nat.dvd_mod_iff h2).2 h1
theorem frac_step {j r : Nat} (h : Rest j r) (h0 : r ≠ 0) : frac (32 - j) r = dch (10 * r / 4294967296) :: frac (32 - (j + 1)) (10 * r % 4294967296) := by
  have hj := h.more h0
  rw [show 32 - j = (32 - (j + 1)) + 1 by omega]
  exact frac_succ h0
/-- A number's text: n is its size. -/
def textL (below : Bool) (n : Nat) : List UInt8 := (if below = true then [45] else []) ++ Lib.decDigits (n / 4294967296) ++ (if n % 4294967296 = 0 then [] else 46 :: frac 32 (n % 4294967296))

theorem Size_pos (m : Nat) (h : m ≤ 9223372036854775807) (w : World) : Calls Tryd.prog 21 #[.int .i64 (m : Int)] w fun e w' => e = .returned (.int .u64 (m : Int)) ∧ w' = w := by
  have d1 : decide ((m : Int) < 0) = false := decide_eq_false (by omega)
  go_enter Tryd.func21, Tryd.ntmps21
  go_wp2_with fail
  go_ret
  exact ⟨rfl, rfl⟩
theorem Size_neg (m : Nat) (h0 : 1 ≤ m) (h : m ≤ 9223372036854775808) (w : World) : Calls Tryd.prog 21 #[.int .i64 (-(m : Int))] w fun e w' => e = .returned (.int .u64 (m : Int)) ∧ w' = w := by
  have d1 : decide (-(m : Int) < 0) = true := decide_eq_true (by omega)
  have s1 : IntKind.u64.wrap (-(m : Int)) = 18446744073709551616 - (m : Int) := by rw [IntKind.wrap_u64]; omega
  have s2 : IntKind.u64.wrap (-(18446744073709551616 - (m : Int))) = (m : Int) := by rw [IntKind.wrap_u64]; omega
  go_enter Tryd.func21, Tryd.ntmps21
  go_wp2_with fail
  go_ret
  exact ⟨rfl, rfl⟩
theorem bsz (a : Array UInt8) : (ByteArray.mk a).size = a.size := rfl
def strLen : Value → Nat
  | .string S => S.size
  | _ => 0
set_option maxHeartbeats 4000000 in
theorem rText_any (below : Bool) (a : Int) (m : Nat) (ha : a = if below = true then -(m : Int) else m) (hm : m ≤ 9223372036854775808) (hb : below = true → 1 ≤ m) (hp : below = false → m ≤ 9223372036854775807) (w : World) :
    Calls Tryd.prog 12 #[.int .i64 a] w fun e w' => e = .returned (.string ⟨(textL below m).toArray⟩) ∧ Below w.heap.size w w' := by
  have hsize : ∀ W, Calls Tryd.prog 21 #[.int .i64 a] W fun e w' => e = .returned (.int .u64 (m : Int)) ∧ w' = W := fun W => by
    cases below with
    | true => rw [ha]; exact Size_neg m (hb rfl) hm W
    | false => rw [ha]; exact Size_pos m (hp rfl) W
  have HS := Lib.hid hsize
  have d1 : decide (a < 0) = below := by
    cases below with
    | true => rw [ha]; have := hb rfl; simp; omega
    | false => rw [ha]; simp
  obtain ⟨hi, hhi⟩ : ∃ hi, hi = m / 4294967296 := ⟨_, rfl⟩
  obtain ⟨lo, hlo⟩ : ∃ lo, lo = m % 4294967296 := ⟨_, rfl⟩
  have s1 : (m : Int) / 4294967296 = (hi : Int) := by omega
  have s2 : (m : Int) % 4294967296 = (lo : Int) := by omega
  have hdl := dec_len 10 hi (by omega) (by omega)
  have HD := Lib.hid (fun W => Digits_any hi (by omega) W)
  obtain ⟨D, hD⟩ : ∃ D, D = Lib.decDigits hi := ⟨_, rfl⟩
  rw [← hD] at hdl HD
  have hT : textL below m = (if below = true then [45] else []) ++ D ++ (if lo = 0 then [] else 46 :: frac 32 lo) := by
    unfold textL; rw [← hhi, ← hlo, hD]
  obtain ⟨T, hTT⟩ : ∃ T, T = textL below m := ⟨_, rfl⟩
  rw [← hTT] at hT ⊢
  have HT := Lib.hid hT
  clear hTT
  have hlo2 : lo < 4294967296 := by omega
  clear ha hb hp hsize hhi hlo hD hT
  have HX := Lib.hid (fun (d : Nat) (hd : d < 10) W => Digits_small d hd W)
  by_cases hz : lo = 0
  · subst hz
    cases below
    all_goals
      go_enter Tryd.func12, Tryd.ntmps12
      go_wp2_with fail
      refine (HS.out _).mono ?_
      rintro e w1 ⟨rfl, rfl⟩
      go_wp2_with fail
      refine (HD.out _).mono ?_
      rintro e w2 ⟨rfl, hb⟩
      have HB := Lib.hid hb
      clear hb
      go_wp2_with fail
      go_ret
      refine ⟨?_, HB.out⟩
      rw [HT.out]
      first
        | (simp; done)
        | (simp; rfl)
  · have z1 : ((lo : Int) == 0) = false := by simp; omega
    have z2 : decide ((lo : Int) = 0) = false := by simp; omega
    have hzh := Lib.hid hz
    obtain ⟨F, hF⟩ : ∃ F, F = frac 32 lo := ⟨_, rfl⟩
    rw [if_neg hz, ← hF] at HT
    have HF := Lib.hid hF
    clear hz hF
    cases below
    all_goals
      go_enter Tryd.func12, Tryd.ntmps12
      go_wp2_with fail
      refine (HS.out _).mono ?_
      rintro e w1 ⟨rfl, rfl⟩
      go_wp2_with fail
      refine (HD.out _).mono ?_
      rintro e w2 ⟨rfl, hb⟩
      have HB := Lib.hid hb
      clear hb
      go_wp2_with fail
      have HS2 := Lib.hid s2
      clear z1 z2 s1 s2
      go_loopw [4, 5] (fun s rest wr => ∃ (S : ByteArray) (j r : Nat), s = .string S ∧ rest = .int .u64 (r : Int) ∧ Rest j r ∧ S.size ≤ 20 + j ∧ S.data.toList ++ frac (32 - j) r = T ∧ Below w1.heap.size w1 wr) (fun s _ _ => 200 - strLen s)
      case atStart =>
        refine ⟨_, 0, lo, rfl, by rw [HS2.out], Rest.start hlo2, ?_, ?_, HB.out⟩
        · simp [bsz]; omega
        · rw [HT.out, HF.out]; simp
      case round =>
        obtain ⟨S, j, r, rfl, rfl, hrest, hsz, htxt, hbl⟩ := hrel
        have HR := Lib.hid hrest; have HTX := Lib.hid htxt; have HBL := Lib.hid hbl
        have hj := hrest.le
        have hrl := hrest.lt
        clear hrest htxt hbl
        by_cases hr : r = 0
        · subst hr
          have z1 : (((0 : Nat) : Int) == 0) = true := rfl
          go_wp2_with fail
          go_ret
          refine ⟨?_, HBL.out⟩
          have := HTX.out
          rw [frac_zero, List.append_nil] at this
          rw [← this]
          rfl
        · have z1 : ((r : Int) == 0) = false := by simp; omega
          have z2 : decide ((r : Int) = 0) = false := by simp; omega
          have z3 : ((r : Int) != 0) = true := by simp; omega
          have HN := Lib.hid (HR.out.next hr); have HM := Lib.hid (HR.out.more hr); have HST := Lib.hid (frac_step HR.out hr)
          obtain ⟨d, hd⟩ : ∃ d, d = 10 * r / 4294967296 := ⟨_, rfl⟩
          obtain ⟨r2, hr2⟩ : ∃ r2, r2 = 10 * r % 4294967296 := ⟨_, rfl⟩
          rw [← hr2] at HN HST
          rw [← hd] at HST
          have hd10 : d < 10 := by omega
          have t1 : IntKind.u64.wrap (10 * (r : Int)) = 10 * (r : Int) := IntWalk.u64_in _ (by omega)
          have t2 : 10 * (r : Int) / 4294967296 = (d : Int) := by omega
          have HR2 : Hid (10 * (r : Int) % 4294967296 = (r2 : Int)) := Lib.hid (by omega)
          have HD1 := Lib.hid (dec_one hd10)
          clear hr hd hr2
          go_wp2_with fail
          refine (HX.out d hd10 _).mono ?_
          rintro e w3 ⟨rfl, hb3⟩
          have HB3 := Lib.hid hb3
          rw [HD1.out]
          clear hb3
          go_wp2_with fail
          go_roundw
          case rel =>
            refine ⟨_, j + 1, r2, rfl, by rw [HR2.out], HN.out, ?_, ?_, HBL.out.trans (HB3.out.mono HBL.out.size)⟩
            · simp [bsz]; omega
            · rw [← HTX.out, HST.out]; simp
          case measure => simp [strLen, bsz]; omega
end Go.Proofs.YtfpmchhpejncpaaDoor
