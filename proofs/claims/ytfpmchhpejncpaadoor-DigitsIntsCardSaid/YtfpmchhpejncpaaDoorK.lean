/- Digits: the part ahead of the point. -/
import Derived.Test.YtfpmchhpejncpaaDoorJ
import Derived.Test.YtfpmchhpejncpaaDoorP
namespace Go.Proofs.YtfpmchhpejncpaaDoor
open Go.RowKit
set_option maxRecDepth 100000
set_option linter.unusedVariables false

/-- The digits of a text. -/
def digs (l : List UInt8) : List Nat := l.map fun b => b.toNat - 48
theorem val_app : ∀ (l : List Nat) (d : Nat), val (l ++ [d]) = 10 * val l + d
  | [], d => by simp [val]
  | a :: l, d => by
    have := val_app l d
    simp only [List.cons_append, val, this, List.length_append, List.length_cons, List.length_nil, Nat.pow_succ, Nat.zero_add]
    have : a * (10 ^ l.length * 10) = 10 * (a * 10 ^ l.length) := by rw [← Nat.mul_assoc, Nat.mul_comm]
    omega
theorem digs_dg {l : List UInt8} (h : ∀ b ∈ l, isDig b = true) : Dg (digs l) := by
  intro d hd
  obtain ⟨b, hb, rfl⟩ := List.mem_map.1 hd
  have := isDig_iff.1 (h b hb)
  omega
theorem digs_step {l : List UInt8} {pos : Nat} {c : UInt8} (h : l[pos]? = some c) : digs (l.take (pos + 1)) = digs (l.take pos) ++ [c.toNat - 48] := by
  have hlt := (List.getElem?_eq_some_iff.1 h).1
  rw [List.take_succ_eq_append_getElem hlt, digs, List.map_append]
  have : l[pos] = c := (List.getElem?_eq_some_iff.1 h).2
  simp [digs, this]
set_option maxHeartbeats 4000000 in
theorem whole_any (s : ByteArray) (hs : s.size ≤ 100000) (hd : ∀ b ∈ s.data.toList, isDig b = true) (w : World) :
    Calls Tryd.prog 28 #[.string s] w fun e w' => e = .returned (.int .i64 ((min (val (digs s.data.toList)) 1099511627776 : Nat) : Int)) ∧ Below w.heap.size w w' := by
  have HG := Lib.hid hd
  have hsz := Lib.hid (lsize s)
  clear hd
  go_enter Tryd.func28, Tryd.ntmps28
  go_wp2_with fail
  have HITER : Hid (∀ q, w.iter s q = w.alloc (.stringIter s q)) := Lib.hid (fun q => rfl)
  go_loopw [3, 5] (fun n _ wr => ∃ pos : Nat, pos ≤ s.size ∧ wr = w.iter s pos ∧ n = .int .i64 ((min (val (digs (s.data.toList.take pos))) 1099511627776 : Nat) : Int)) (fun _ _ wr => s.size - wr.iterPos w.heap.size)
  case atStart => exact ⟨0, Nat.zero_le _, rfl, by simp [digs, val]⟩
  case round =>
    obtain ⟨pos, hpos, rfl, rfl⟩ := hrel
    obtain ⟨v, hv⟩ : ∃ v, v = val (digs (s.data.toList.take pos)) := ⟨_, rfl⟩
    obtain ⟨n, hn⟩ : ∃ n, n = min v 1099511627776 := ⟨_, rfl⟩
    rw [← hv, ← hn]
    have hn40 : n ≤ 1099511627776 := by omega
    have HN := Lib.hid hn
    clear hn
    by_cases hlt : pos < s.size
    · have hl := lget s pos hlt
      have hdg := HG.out _ (List.mem_of_getElem? hl)
      obtain ⟨c, hc⟩ : ∃ c, c = s[pos] := ⟨_, rfl⟩
      rw [← hc] at hdg hl
      have hcb := isDig_iff.1 hdg
      have hnx := next_ascii w _ rfl s pos hlt c hc (by omega)
      have HV : Hid (val (digs (s.data.toList.take (pos + 1))) = 10 * v + (c.toNat - 48)) := Lib.hid (by rw [digs_step hl, val_app, hv])
      have hc1 := hcb.1
      have hc2 := hcb.2
      clear hc hl hdg hv hcb
      go_wp2_with fail
      go_roundw
      case rel =>
        refine ⟨pos + 1, hlt, rfl, ?_⟩
        rw [HV.out]
        have hmin := HN.out
        go_num
      case measure => simp; omega
    · obtain rfl : pos = s.size := by omega
      have HV : Hid (val (digs s.data.toList) = v) := Lib.hid (by rw [hv, hsz.out, List.take_length])
      have hnx := next_end w _ rfl s s.size hlt
      have hnx2 : ∀ ty, (Instr.next (.pointer (some ⟨w.heap.size, 0, none⟩)) true ty).run Tryd.prog (w.iter s s.size) = .ok (.tuple #[.bool false]) (w.alloc (.stringIter s s.size)) := fun ty => by rw [← HITER.out]; exact hnx ty
      clear hnx hv
      go_wp2_with fail
      go_ret
      exact ⟨by rw [HV.out, ← HN.out]; rfl, (Below.refl _ _).alloc (Nat.le_refl _) _⟩
end Go.Proofs.YtfpmchhpejncpaaDoor
