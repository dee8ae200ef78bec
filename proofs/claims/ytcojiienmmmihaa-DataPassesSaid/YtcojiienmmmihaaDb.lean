/- Walks: data.Own. -/
import Derived.Test.YtcojiienmmmihaaDa
import Derived.Test.YtcojiienmmmihaaV
import Derived.Test.YtcojiienmmmihaaI
import Derived.Test.YtcojiienmmmihaaF
namespace Go.Proofs.Ytcojiienmmmihaa
open Go.RowKit Go.Joins
set_option maxRecDepth 100000
set_option linter.unusedVariables false

/-- Where a worker's places begin. -/
def M.beg (workers n worker : Nat) : Nat := worker * n / workers
/-- A worker's examples, k of them. -/
noncomputable def M.ownK (s workers n worker k : Nat) : List Int := (List.range k).map fun j => ((M.bck s 1 0 0 n (M.beg workers n worker + j) : Nat) : Int)
noncomputable def M.own (s workers n worker : Nat) : List Int := M.ownK s workers n worker (M.beg workers n (worker + 1) - M.beg workers n worker)
theorem M.ownK_succ (s workers n worker k : Nat) : M.ownK s workers n worker (k + 1) = M.ownK s workers n worker k ++ [((M.bck s 1 0 0 n (M.beg workers n worker + k) : Nat) : Int)] := by simp [M.ownK, List.range_succ]
theorem M.beg_le {workers n worker : Nat} (h0 : 1 ≤ workers) (h : worker ≤ workers) : M.beg workers n worker ≤ n := by
  unfold M.beg
  exact Nat.div_le_of_le_mul (by exact Nat.mul_le_mul_right n h)
theorem M.beg_mono {workers n worker : Nat} : M.beg workers n worker ≤ M.beg workers n (worker + 1) := Nat.div_le_div_right (Nat.mul_le_mul_right n (Nat.le_succ worker))
theorem begin_at (workers worker n : Nat) (w : World) (h0 : 1 ≤ workers) (h1 : workers ≤ 64) (h2 : worker ≤ 64) (h3 : n ≤ 4096) :
    Calls Try.prog 54 #[.int .i64 (workers : Int), .int .i64 (worker : Int), .int .i64 (n : Int)] w fun e w' => e = .returned (.int .i64 ((M.beg workers n worker : Nat) : Int)) ∧ w' = w := begin_any workers worker n w h0 h1 h2 h3

def OwnPost (L : List Int) (w : World) (e : Ending) (w' : World) : Prop :=
  ∃ v, e = .returned (.tuple #[v, .int .i64 0]) ∧ w'.ownsRow w.heap.size 3 1 v L.length (L.map (Value.int .i64)) ∧ Below w.heap.size w w'

set_option maxHeartbeats 4000000 in
theorem Own_yes (s workers worker n : Nat) (w : World) (h0 : 1 ≤ workers) (h1 : workers ≤ 64) (h2 : workers ≤ n) (h3 : n ≤ 4096) (h4 : worker < workers) :
    Calls Try.prog 31 #[.int .u64 (s : Int), .int .i64 (workers : Int), .int .i64 (worker : Int), .int .i64 (n : Int)] w (OwnPost (M.own s workers n worker) w) := by
  obtain ⟨i0, hi, hz0, hz1, hz2⟩ := info_parts Try.info3
  have HZ0 := Lib.hid hz0; have HZ1 := Lib.hid hz1; have HZ2 := Lib.hid hz2; have HI := Lib.hid hi
  clear hz0 hz1 hz2 hi
  have hd1 : decide ((1 : Int) ≤ (workers : Int) ∧ (workers : Int) ≤ 64 ∧ (workers : Int) ≤ (n : Int) ∧ (n : Int) ≤ 4096) = true := decide_eq_true (by omega)
  have hd2 : decide ((0 : Int) ≤ (worker : Int) ∧ (worker : Int) ≤ (workers : Int) - 1) = true := decide_eq_true (by omega)
  have HD1 := Lib.hid hd1
  have HD2 := Lib.hid hd2
  clear hd1 hd2
  go_enter Try.func31, Try.ntmps31
  go_wp2_with fail
  refine (shards_any _ _ _ (by omega) (by omega)).mono ?_
  rintro e w1 ⟨rfl, hb1⟩
  rw [HD1.out]
  go_wp2_with fail
  refine (within1 _ _ _ _).mono ?_
  rintro e w2 ⟨rfl, hb2⟩
  rw [HD2.out]
  have hbw : Below w.heap.size w w2 := hb1.trans (hb2.mono hb1.size)
  clear hb1 hb2
  go_wp2_with fail
  refine (begin_at workers worker n _ h0 h1 (by omega) h3).mono ?_
  rintro e w3 ⟨rfl, rfl⟩
  have hble := M.beg_le (n := n) h0 (show worker ≤ workers by omega)
  have hele := M.beg_le (n := n) h0 (show worker + 1 ≤ workers by omega)
  have hbe := M.beg_mono (workers := workers) (n := n) (worker := worker)
  have HOWN := Lib.hid (show M.own s workers n worker = M.ownK s workers n worker (M.beg workers n (worker + 1) - M.beg workers n worker) from rfl)
  have HSTEP := Lib.hid (fun k => M.ownK_succ s workers n worker k)
  have HBEG := Lib.hid (fun W => begin_at workers (worker + 1) n W h0 h1 (by omega) h3)
  obtain ⟨b, hb⟩ : ∃ b, b = M.beg workers n worker := ⟨_, rfl⟩
  obtain ⟨e, he⟩ : ∃ e, e = M.beg workers n (worker + 1) := ⟨_, rfl⟩
  rw [← hb, ← he] at HOWN
  rw [← hb] at HSTEP hbe hble ⊢
  rw [← he] at HBEG hbe hele
  clear hb he
  go_wp2_with fail
  go_loopw [11, 12, 13, 14] (fun out p _ _ wr => ∃ k : Nat, b + k ≤ e ∧ p = .int .i64 ((b + k : Nat) : Int) ∧
      wr.ownsRow (w2.heap.size + 1) 3 1 out k ((M.ownK s workers n worker k).map (Value.int .i64)) ∧ Below (w2.heap.size + 1) (w2.alloc (Obj.cells #[.int .u64 (s : Int), .int .i64 1, .int .i64 0, .int .i64 0] 24)) wr)
    (fun _ p _ _ _ => e - (intOf p).toNat)
  case atStart => exact ⟨0, by omega, rfl, World.ownsRow_nil _ _ _ _, Below.refl _ _⟩
  case round =>
    obtain ⟨k, hk, rfl, hown, hB⟩ := hrel
    go_wp2_with fail
    rw [show (worker : Int) + 1 = ((worker + 1 : Nat) : Int) by omega]
    refine (HBEG.out _).mono ?_
    rintro en w4 ⟨rfl, rfl⟩
    by_cases hlt : b + k < e
    · obtain ⟨k0, k1, k2, k3⟩ := key_cells hB
      have HB := Lib.hid hB
      have HO := Lib.hid hown
      clear hB hown
      go_wp2_with fail
      refine (Back_any s 1 0 0 n (b + k) _ (by omega) (by omega)).mono ?_
      rintro en w5 ⟨rfl, hb5⟩
      have hown := owns_below HO.out hb5
      have hB : Below (w2.heap.size + 1) (w2.alloc (Obj.cells #[.int .u64 (s : Int), .int .i64 1, .int .i64 0, .int .i64 0] 24)) w5 := HB.out.trans (hb5.mono (by have := HB.out.size; simp at this; omega))
      clear hb5 HB HO k0 k1 k2 k3
      go_wp2_with (at_builtin; refine wpList_append_own _ rfl (.tmp 53) (.tmp 55) 34 rfl (w2.heap.size + 1) 3 i0 (.int .i64 0) 1 8 Try.underlying34 HI.out HZ0.out HZ1.out HZ2.out rfl (by decide) _ k _ rfl (hown.alloc _) ⟨w5.heap.size, 0, none⟩ 1 1 [.int .i64 ((M.bck s 1 0 0 n (b + k) : Nat) : Int)] rfl rfl (cell_one_new _ _ _) (by intro u hu; simp at hu; subst hu; rfl) (by unfold maxLen; omega) (by omega) (by have := hB.size; simp at this; simp; omega) ?_; intro v1 w6 hown6 hgrow6 _)
      have hsz := hB.size
      simp at hsz
      have hown7 : w6.ownsRow (w2.heap.size + 1) 3 1 v1 (k + 1) ((M.ownK s workers n worker (k + 1)).map (Value.int .i64)) := by
        rw [HSTEP.out, List.map_append]; exact hown6
      have hb7 : Below (w2.heap.size + 1) (w2.alloc (Obj.cells #[.int .u64 (s : Int), .int .i64 1, .int .i64 0, .int .i64 0] 24)) w6 := (hB.alloc (by omega) _).grown hgrow6 (by simp; omega) (fun q hq => (hown.lt q hq).1)
      refine ⟨⟨k + 1, by omega, by go_num, hown7, hb7⟩, by simp [intOf]; omega⟩
    · have HB := Lib.hid hB
      have HO := Lib.hid hown
      have hke : e - b = k := by omega
      clear hB hown
      go_wp2_with fail
      go_ret2
      refine ⟨_, rfl, ?_, hbw.trans (((Below.refl _ _).alloc (Nat.le_refl _) _).trans (HB.out.mono (by omega)) |>.mono hbw.size)⟩
      rw [HOWN.out, hke, show (M.ownK s workers n worker k).length = k by simp [M.ownK]]
      exact ownsRow_le HO.out (by have := hbw.size; omega)

theorem Own_no1 (s : Nat) (workers worker n : Int) (w : World) (hw : -9223372036854775808 ≤ workers ∧ workers ≤ 9223372036854775807) (hn : -9223372036854775808 ≤ n ∧ n ≤ 9223372036854775807) (h : ¬ (1 ≤ workers ∧ workers ≤ 64 ∧ workers ≤ n ∧ n ≤ 4096)) :
    Calls Try.prog 31 #[.int .u64 (s : Int), .int .i64 workers, .int .i64 worker, .int .i64 n] w fun e w' => e = .returned (.tuple #[.slice none 0 0, .int .i64 2]) ∧ Below w.heap.size w w' := by
  have HD := Lib.hid (decide_eq_false h)
  clear h
  go_enter Try.func31, Try.ntmps31
  go_wp2_with fail
  refine (shards_any _ _ _ (by omega) (by omega)).mono ?_
  rintro e w1 ⟨rfl, hb1⟩
  rw [HD.out]
  go_wp2_with fail
  go_ret2
  exact ⟨rfl, hb1⟩
theorem Own_no2 (s : Nat) (workers worker n : Int) (w : World) (hq : 1 ≤ workers ∧ workers ≤ 64 ∧ workers ≤ n ∧ n ≤ 4096) (h : ¬ (0 ≤ worker ∧ worker ≤ workers - 1)) :
    Calls Try.prog 31 #[.int .u64 (s : Int), .int .i64 workers, .int .i64 worker, .int .i64 n] w fun e w' => e = .returned (.tuple #[.slice none 0 0, .int .i64 2]) ∧ Below w.heap.size w w' := by
  have HD := Lib.hid (decide_eq_true hq)
  have HD2 := Lib.hid (decide_eq_false h)
  obtain ⟨q1, q2, q3, q4⟩ := hq
  clear h
  go_enter Try.func31, Try.ntmps31
  go_wp2_with fail
  refine (shards_any _ _ _ (by omega) (by omega)).mono ?_
  rintro e w1 ⟨rfl, hb1⟩
  rw [HD.out]
  go_wp2_with fail
  refine (within1 _ _ _ _).mono ?_
  rintro e w2 ⟨rfl, hb2⟩
  rw [HD2.out]
  have hbw : Below w.heap.size w w2 := hb1.trans (hb2.mono hb1.size)
  clear hb1 hb2
  go_wp2_with fail
  go_ret2
  exact ⟨rfl, hbw⟩

end Go.Proofs.Ytcojiienmmmihaa
