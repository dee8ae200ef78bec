/- Digits: the document's digits. -/
import Derived.Test.YtfpmchhpejncpaaDoorSh1
import Derived.WalkKit
import Derived.Outline
import Derived.LoopN
import Derived.Lib.SmallJoins
import Derived.Lib.Hide
import Derived.Lib.ItoaNum
import Derived.Lib.BufferRead
import Derived.WalkSpells
import Derived.WalkLawsBesides
import Derived.Below
import Derived.IntWalk
import Derived.Deep.DeepFit
import Derived.Laws.IdiomStrings
namespace Go.Proofs.YtfpmchhpejncpaaDoor
open Go.RowKit Go.Joins
set_option maxRecDepth 100000
set_option linter.unusedVariables false

theorem bcell {W w1 : World} (hb : Below W.heap.size W w1) : (∀ b o, b < W.heap.size → w1.cell? ⟨b, o, none⟩ = W.cell? ⟨b, o, none⟩) ∧ (∀ b o, b < W.heap.size → w1.frozen? ⟨b, o, none⟩ = W.frozen? ⟨b, o, none⟩) :=
  ⟨fun b o h => hb.cell (p := ⟨b, o, none⟩) h, fun b o h => hb.frozen (p := ⟨b, o, none⟩) h⟩
/-- A slice of one byte, as a string. -/
theorem conv_one (W : World) (b : Nat) (x : UInt8) (h : W.cell? ⟨b, 0, none⟩ = some (.int .u8 (x.toNat : Int))) : (convert 44 9 (.slice (some ⟨b, 0, none⟩) 1 1)).run Tryd.prog W = .ok (.string ⟨#[x]⟩) W :=
  run_convert_bytes_back (P := Tryd.prog) W 44 9 5 ⟨b, 0, none⟩ 1 [x] Tryd.underlying44 Tryd.underlying5 Tryd.underlying9 (fun j hj => by
    match j, hj with
    | 0, _ => exact h)
/-- A digit as a byte. -/
def dch (r : Nat) : UInt8 := UInt8.ofNat (48 + r)
theorem dch_nat {r : Nat} (h : r < 10) : ((dch r).toNat : Int) = 48 + (r : Int) := by
  have : (UInt8.ofNat (48 + r)).toNat = 48 + r := by simp [UInt8.toNat_ofNat']; omega
  unfold dch; rw [this]; rfl
theorem conv_digit (r : Nat) (hr : r < 10) (W : World) (b : Nat) (h : W.cell? ⟨b, 0, none⟩ = some (.int .u8 (48 + (r : Int)))) : (convert 44 9 (.slice (some ⟨b, 0, none⟩) 1 1)).run Tryd.prog W = .ok (.string ⟨#[dch r]⟩) W :=
  conv_one W b (dch r) (by rw [h, dch_nat hr])
theorem dec_one {u : Nat} (h : u < 10) : Lib.decDigits u = [dch u] := Lib.decDigits_one h
theorem dec_step {u : Nat} (h : ¬ u < 10) : Lib.decDigits u = Lib.decDigits (u / 10) ++ [dch (u % 10)] := by
  rw [Lib.decDigits, dif_neg h]; rfl
theorem dec_len : ∀ (k u : Nat), u < 10 ^ k → 0 < k → (Lib.decDigits u).length ≤ k
  | 0, u, _, h0 => absurd h0 (by omega)
  | k + 1, u, h, _ => by
    by_cases h10 : u < 10
    · rw [dec_one h10]; simp
    · have hk : 0 < k := by
        rcases Nat.eq_zero_or_pos k with rfl | h
        · simp at h; omega
        · exact h
      rw [dec_step h10, List.length_append]
      have := dec_len k (u / 10) (by rw [Nat.pow_succ] at h; exact Nat.div_lt_of_lt_mul (by rw [Nat.mul_comm]; exact h)) hk
      simp; omega
theorem dec_len64 {u : Nat} (h : u < 18446744073709551616) : (Lib.decDigits u).length ≤ 20 := dec_len 20 u (by omega) (by omega)
theorem cat_lists (a b : List UInt8) : (⟨a.toArray⟩ : ByteArray) ++ ⟨b.toArray⟩ = ⟨(a ++ b).toArray⟩ := by
  apply ByteArray.ext
  simp
theorem Digits_small (u : Nat) (h : u < 10) (w : World) : Calls Tryd.prog 22 #[.int .u64 (u : Int)] w fun e w' => e = .returned (.string ⟨(Lib.decDigits u).toArray⟩) ∧ Below w.heap.size w w' := by
  have d1 : decide ((u : Int) < 10) = true := decide_eq_true (by omega)
  have hc := conv_digit u h (w.alloc (.cells #[.int .u8 (48 + (u : Int))] 5)) w.heap.size (by simp [go_sem])
  have hd := Lib.hid (dec_one h)
  go_enter Tryd.func22, Tryd.ntmps22
  go_wp2_with fail
  go_ret
  exact ⟨by rw [hd.out]; rfl, (Below.refl _ _).alloc (Nat.le_refl _) _⟩
set_option maxHeartbeats 4000000 in
theorem Digits_any (u : Nat) (hu : u < 18446744073709551616) (w : World) : Calls Tryd.prog 22 #[.int .u64 (u : Int)] w fun e w' => e = .returned (.string ⟨(Lib.decDigits u).toArray⟩) ∧ Below w.heap.size w w' := by
  induction u using Nat.strongRecOn generalizing w with
  | ind u ih =>
    by_cases h : u < 10
    · exact Digits_small u h w
    · have d1 : decide ((u : Int) < 10) = false := decide_eq_false (by omega)
      have hd := Lib.hid (dec_step h)
      have hl := dec_len64 (u := u / 10) (by omega)
      have ih1 := ih (u / 10) (by omega) (by omega)
      obtain ⟨D, hD⟩ : ∃ D, D = Lib.decDigits (u / 10) := ⟨_, rfl⟩
      rw [← hD] at ih1 hd hl
      obtain ⟨q, hq⟩ : ∃ q, q = u / 10 := ⟨_, rfl⟩
      obtain ⟨r, hr⟩ : ∃ r, r = u % 10 := ⟨_, rfl⟩
      rw [← hq] at ih1
      rw [← hr] at hd
      have hr10 : r < 10 := by omega
      have hc := conv_digit r hr10
      have HI : Hid (∀ W, Calls Tryd.prog 22 #[.int .u64 (q : Int)] W fun e w' => e = .returned (.string ⟨D.toArray⟩) ∧ Below W.heap.size W w') := Lib.hid (fun W => ih1 W)
      have s1 : (u : Int).tdiv 10 = (q : Int) := by rw [Int.tdiv_eq_ediv_of_nonneg (by omega)]; omega
      have s2 : (u : Int).tmod 10 = (r : Int) := by rw [Int.tmod_eq_emod_of_nonneg (by omega)]; omega
      have s3 : (u : Int) / 10 = (q : Int) := by omega
      have s4 : (u : Int) % 10 = (r : Int) := by omega
      have s5 : IntKind.u64.wrap (q : Int) = (q : Int) := IntWalk.u64_in _ (by omega)
      have s6 : IntKind.u64.wrap (48 + (r : Int)) = 48 + (r : Int) := IntWalk.u64_in _ (by omega)
      have s7 : IntKind.u8.wrap (48 + (r : Int)) = 48 + (r : Int) := IntWalk.u8_in _ (by omega)
      clear ih ih1 hD hq hr
      go_enter Tryd.func22, Tryd.ntmps22
      go_wp2_with fail
      go_region_with (go_at_call 22; go_must (go_fit (HI.out _)); rintro e w2 ⟨rfl, hb⟩; obtain ⟨hcc, hff⟩ := bcell hb)
      all_goals
        clear hcc hff
        go_wp2_with fail
        go_ret
        refine ⟨by rw [hd.out, ← cat_lists]; rfl, ?_⟩
        first
          | exact ((Below.refl _ w).drew.trans hb).alloc (Nat.le_trans (Nat.le_refl _) hb.size) _
          | exact (((Below.refl _ w).alloc (Nat.le_refl _) _).drew).trans (hb.mono (by simp))
end Go.Proofs.YtfpmchhpejncpaaDoor
