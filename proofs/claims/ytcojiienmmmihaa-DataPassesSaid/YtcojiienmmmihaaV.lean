/- Walks: the reference's Place. -/
import Derived.Test.YtcojiienmmmihaaU
namespace Go.Proofs.Ytcojiienmmmihaa
open Go.RowKit Go.Joins Go.IntWalk
set_option maxRecDepth 100000
set_option linter.unusedVariables false

theorem M.Turns.comes_by {N : Nat} {f g : Nat → Nat} (h : M.Turns N f g) (x : Nat) (hx : x < N) : ∃ m, 1 ≤ m ∧ m ≤ N ∧ M.it f m x = x := by
  have hnot : ¬ ((List.range (N + 1)).map fun j => M.it f j x).Nodup := by
    intro hn
    have := M.len_le_of_lt N _ hn (by
      intro y hy
      obtain ⟨j, _, rfl⟩ := List.mem_map.1 hy
      exact h.it_lt j x hx)
    simp at this
    omega
  have : ∃ a b, a < b ∧ b ≤ N ∧ M.it f a x = M.it f b x := by
    apply Classical.byContradiction
    intro hne
    apply hnot
    rw [List.nodup_iff_pairwise_ne, List.pairwise_map]
    refine List.Pairwise.imp_of_mem ?_ List.pairwise_lt_range
    intro a b ha hb hab e
    exact hne ⟨a, b, hab, by have := List.mem_range.1 hb; omega, e⟩
  obtain ⟨a, b, hab, hbN, e⟩ := this
  refine ⟨b - a, by omega, by omega, ?_⟩
  have e2 : M.it f b x = M.it f a (M.it f (b - a) x) := by rw [← M.it_add, Nat.sub_add_cancel (by omega)]
  rw [e2] at e
  have u1 := h.undo a x hx
  have u2 := h.undo a (M.it f (b - a) x) (h.it_lt _ _ hx)
  rw [← e, u1] at u2
  exact u2.symm
theorem M.Turns.first_by {N : Nat} {f g : Nat → Nat} (h : M.Turns N f g) {n x : Nat} (hn : n ≤ N) (hx : x < n) : ∃ m y, M.First f n x m y ∧ m ≤ N := by
  obtain ⟨m, h1, h2, h3⟩ := h.comes_by x (by omega)
  obtain ⟨m', y, hf, hm⟩ := M.first_exists f n x m h1 (by omega)
  exact ⟨m', y, hf, by omega⟩

/-- Where m trips led, none of them below n. -/
def M.Gone (f : Nat → Nat) (n i m x : Nat) : Prop := M.it f m i = x ∧ ∀ j, 1 ≤ j → j ≤ m → n ≤ M.it f j i
theorem M.gone_zero (f : Nat → Nat) (n i : Nat) : M.Gone f n i 0 i := ⟨rfl, fun j h1 h2 => by omega⟩
/-- Where m trips led, none of them but the last below n. -/
def M.Went (f : Nat → Nat) (n i m x : Nat) : Prop := M.it f m i = x ∧ ∀ j, 1 ≤ j → j < m → n ≤ M.it f j i
theorem M.went_zero (f : Nat → Nat) (n i : Nat) : M.Went f n i 0 i := ⟨rfl, fun j h1 h2 => by omega⟩
theorem M.Went.on {f : Nat → Nat} {n i m x : Nat} (w : M.Went f n i m x) (h : m = 0 ∨ n ≤ x) : M.Went f n i (m + 1) (f x) := by
  obtain ⟨h1, h2⟩ := w
  refine ⟨by rw [M.it_succ, h1], fun j hj1 hj2 => ?_⟩
  by_cases e : j = m
  · subst e; rw [h1]; omega
  · exact h2 j hj1 (by omega)
theorem M.Went.place {f : Nat → Nat} {n i m x : Nat} (w : M.Went f n i m x) (h0 : m ≠ 0) (h : x < n) : M.place f n i = x := M.place_of (m := m) ⟨by omega, w.1, h, w.2⟩
theorem M.Went.less {f : Nat → Nat} {n i m x m0 y0 : Nat} (w : M.Went f n i m x) (h : m = 0 ∨ n ≤ x) (h0 : M.First f n i m0 y0) : m < m0 := by
  obtain ⟨a1, a2, a3, a4⟩ := h0
  obtain ⟨h1, h2⟩ := w
  rcases Nat.lt_or_ge m m0 with hl | hl
  · exact hl
  · rcases Nat.lt_or_ge m0 m with hk | hk
    · have := h2 m0 a1 hk; omega
    · obtain rfl : m = m0 := by omega
      omega

theorem xor_i64 (a b : Nat) (ha : a < 65536) (hb : b < 65536) : bits .xor .i64 (a : Int) (b : Int) = ((a ^^^ b : Nat) : Int) := by
  have hx : a ^^^ b < 2 ^ 16 := Nat.xor_lt_two_pow (by omega) (by omega)
  have h1 : (BitVec.ofInt 64 (a : Int)).toNat = a := by
    rw [BitVec.ofInt_natCast, BitVec.toNat_ofNat]; exact Nat.mod_eq_of_lt (by omega)
  have h2 : (BitVec.ofInt 64 (b : Int)).toNat = b := by
    rw [BitVec.ofInt_natCast, BitVec.toNat_ofNat]; exact Nat.mod_eq_of_lt (by omega)
  show IntKind.i64.wrap ((BitVec.ofInt 64 (a : Int) ^^^ BitVec.ofInt 64 (b : Int)).toNat : Int) = _
  rw [BitVec.toNat_xor, h1, h2]
  rw [IntKind.wrap_i64]
  omega
theorem quo_form {z y h : Nat} (hz : z = 2 ^ h) (hy : y < 65536) : wrap64 ((y : Int) / (z : Int)) = (((M.fold h y).1 : Nat) : Int) := by
  subst hz
  have e : ((y : Int) / ((2 ^ h : Nat) : Int)) = ((y / 2 ^ h : Nat) : Int) := (Int.natCast_ediv _ _).symm
  have : y / 2 ^ h ≤ y := Nat.div_le_self _ _
  rw [e]
  show wrap64 ((y / 2 ^ h : Nat) : Int) = ((y / 2 ^ h : Nat) : Int)
  generalize y / 2 ^ h = q at this ⊢
  unfold wrap64
  omega
theorem flat_i64 {l z lz r : Nat} (h : lz = l * z) (h1 : lz ≤ 65280) (hr : r < 256) : wrap64 (wrap64 ((l : Int) * (z : Int)) + (r : Int)) = ((lz + r : Nat) : Int) := by
  have e : (l : Int) * (z : Int) = (lz : Int) := by rw [h]; exact (Int.natCast_mul l z).symm
  have e1 : wrap64 (lz : Int) = (lz : Int) := wrap64_in _ (by omega)
  rw [e, e1, wrap64_in _ (by omega)]
  exact (Int.natCast_add lz r).symm
theorem rem_form {z y h : Nat} (hz : z = 2 ^ h) : ((y : Int) % (z : Int)) = (((M.fold h y).2 : Nat) : Int) := by
  subst hz
  exact (Int.natCast_emod _ _).symm

set_option maxHeartbeats 4000000 in
theorem rPlace_any (s : Nat) (a b c : Int) (n i : Nat) (w : World) (h1 : n ≤ 65536) (hi : i < n) :
    Calls Try.prog 29 #[.agg #[.int .u64 (s : Int), .int .i64 a, .int .i64 b, .int .i64 c], .int .i64 (n : Int), .int .i64 (i : Int)] w fun e w' => e = .returned (.int .i64 (M.plc s a b c n i : Nat)) ∧ Below w.heap.size w w' := by
  have hsq := le_sq h1
  have HN := Lib.hid (Nat.lt_of_lt_of_le hi hsq)
  obtain ⟨m0, y0, hfirst, hm0⟩ := (M.thr_turns s a b c n).first_by hsq hi
  have hm16 : m0 ≤ 65536 := Nat.le_trans hm0 (sq16 h1)
  have HF := Lib.hid hfirst
  have HH := Lib.hid (half_hf h1)
  clear hfirst hsq hm0
  have hlt := Lib.hid ((M.thr_turns s a b c n).f_lt)
  go_enter Try.func29, Try.ntmps29
  go_wp2_with fail
  go_loopw [7] (fun v wr => ∃ k : Nat, 1 ≤ k ∧ k ≤ M.hf n ∧ (k = 1 ∨ 2 ^ (2 * (k - 1)) < n) ∧ v = .int .i64 ((2 ^ k : Nat) : Int) ∧ Below (w.heap.size + 1) (w.alloc (Obj.cells #[.int .u64 (s : Int), .int .i64 a, .int .i64 b, .int .i64 c] 28)) wr)
    (fun v _ => 512 - (intOf v).toNat)
  case atStart => exact ⟨1, by omega, HH.out.1, .inl rfl, rfl, Below.refl _ _⟩
  case round =>
    obtain ⟨k, hk1, hk2, hk3, rfl, hB⟩ := hrel
    have h8 : k ≤ 8 := Nat.le_trans hk2 HH.out.2.1
    have h256 := pow8 h8
    obtain ⟨z, hz⟩ : ∃ z, z = 2 ^ k := ⟨_, rfl⟩
    have hzz : z * z = 2 ^ (2 * k) := by rw [hz, ← Nat.pow_add]; congr 1; omega
    have hz2 : 2 * z = 2 ^ (k + 1) := by rw [hz, Nat.pow_succ]; omega
    have hq16 : z * z ≤ 65536 := by rw [← hz] at h256; exact Nat.le_trans (Nat.mul_le_mul h256 h256) (by decide)
    have HZ2 := Lib.hid hz2
    obtain ⟨q, hq⟩ : ∃ q, q = z * z := ⟨_, rfl⟩
    rw [← hz] at h256 ⊢
    have HZ := Lib.hid hz
    rw [← hq] at hzz hq16
    have HZZ := Lib.hid hzz
    have hm : (z : Int) * (z : Int) = (q : Int) := by rw [hq]; exact (Int.natCast_mul z z).symm
    have hzpos : 2 ≤ z := by rw [hz]; exact Nat.le_trans (by decide : 2 ≤ 2 ^ 1) (Nat.pow_le_pow_right (by decide) hk1)
    clear hz hzz hz2 hq
    by_cases hlq : q < n
    · go_wp2_with fail
      have hlt2 : k + 1 ≤ M.hf n := by
        rcases Nat.lt_or_ge k (M.hf n) with h | h
        · omega
        · obtain rfl : k = M.hf n := by omega
          have := HH.out.2.2.2
          have := HZZ.out
          omega
      refine ⟨⟨k + 1, by omega, hlt2, .inr ?_, ?_, hB⟩, by simp [intOf]; omega⟩
      · rw [Nat.add_sub_cancel, ← HZZ.out]; exact hlq
      · rw [← HZ2.out, Int.natCast_mul]; rfl
    · have hk : k = M.hf n := HalfOf.eq h1 ⟨hk1, h8, hk3, by have := HZZ.out; omega⟩
      subst hk
      clear hk1 hk2 hk3 HZ2 HZZ
      go_wp2_with fail
      clear hm
      go_loopw [8, 9, 10, 11, 12, 13, 14] (fun x t _ _ _ _ _ wr => ∃ (m y : Nat), m ≤ m0 ∧ M.Went (M.thr s a b c n) n i m y ∧ y < 2 ^ M.hf n * 2 ^ M.hf n ∧ x = .int .i64 (y : Int) ∧ t = .int .i64 (m : Int) ∧ Below (w.heap.size + 1) (w.alloc (Obj.cells #[.int .u64 (s : Int), .int .i64 a, .int .i64 b, .int .i64 c] 28)) wr)
        (fun _ t _ _ _ _ _ _ => m0 - (intOf t).toNat)
      case atStart => exact ⟨0, i, Nat.zero_le _, M.went_zero _ _ _, HN.out, rfl, rfl, hB⟩
      case round =>
        clear hB
        obtain ⟨m, y, hmle, went, hy, rfl, rfl, hB⟩ := hrel
        have hy16 : y < 65536 := Nat.lt_of_lt_of_le hy (sq16 h1)
        have HY := Lib.hid hy
        have HWENT := Lib.hid went
        clear hy went
        by_cases hstop : m = 0 ∨ n ≤ y
        · have HLESS := Lib.hid (HWENT.out.less hstop HF.out)
          have HON := Lib.hid (HWENT.out.on hstop)
          have hmlt : m < m0 := HLESS.out
          rcases Nat.eq_zero_or_pos m with hm0' | hm0'
          · have hdec : decide ((m : Int) = 0) = true := decide_eq_true (by omega)
            have HM0 := Lib.hid hm0'
            clear hstop hm0'
            go_wp2_with fail
            rw [quo_form HZ.out hy16, rem_form HZ.out]
            go_loopw [10, 11, 12, 13, 14] (fun l r t _ _ wr => ∃ k : Nat, k ≤ 4 ∧ t = .int .i64 (k : Int) ∧ l = .int .i64 ((M.runs (M.mixh s a b c (M.hf n)) k (M.fold (M.hf n) y)).1 : Nat) ∧ r = .int .i64 ((M.runs (M.mixh s a b c (M.hf n)) k (M.fold (M.hf n) y)).2 : Nat) ∧ Below (w.heap.size + 1) (w.alloc (Obj.cells #[.int .u64 (s : Int), .int .i64 a, .int .i64 b, .int .i64 c] 28)) wr)
              (fun _ _ t _ _ _ => 4 - (intOf t).toNat)
            case atStart => exact ⟨0, by omega, rfl, rfl, rfl, hB⟩
            case round =>
              clear hB
              obtain ⟨k, hk, rfl, rfl, rfl, hB⟩ := hrel
              have hin := M.runs_in (b := M.hf n) (mix := M.mixh s a b c (M.hf n)) (fun t r => M.mixh_lt s a b c (M.hf n) t r) k (M.fold_in HY.out)
              have hstep := Lib.hid (M.runs_succ (M.mixh s a b c (M.hf n)) k (M.fold (M.hf n) y))
              have hflat := Lib.hid (show k = 4 → M.flat (M.hf n) (M.runs (M.mixh s a b c (M.hf n)) k (M.fold (M.hf n) y)) = M.thr s a b c n y from fun e => by subst e; rfl)
              obtain ⟨p, hp⟩ : ∃ p, p = M.runs (M.mixh s a b c (M.hf n)) k (M.fold (M.hf n) y) := ⟨_, rfl⟩
              rw [← hp] at hin hstep hflat ⊢
              clear hp
              obtain ⟨l, r⟩ := p
              have hl : l < 256 := Nat.lt_of_lt_of_le (by rw [HZ.out]; exact hin.1) h256
              have hr : r < 256 := Nat.lt_of_lt_of_le (by rw [HZ.out]; exact hin.2) h256
              have HIN := Lib.hid hin
              clear hin
              by_cases hk4 : k < 4
              · obtain ⟨k0, k1, k2, k3⟩ := key_cells hB
                have hmx : M.mixh s a b c (M.hf n) k r < 256 := Nat.lt_of_lt_of_le (by rw [HZ.out]; exact M.mixh_lt s a b c (M.hf n) k r) h256
                have HMX := Lib.hid (show (((M.word s a b c ((1024 * k + r : Nat) : Int) : Nat) : Int) % (z : Int)) = ((M.mixh s a b c (M.hf n) k r : Nat) : Int) by rw [HZ.out]; exact (Int.natCast_emod _ _).symm)
                have hWl := Lib.hid (M.word_lt s a b c ((1024 * k + r : Nat) : Int))
                go_wp2_with fail
                rw [show 1024 * (k : Int) + (r : Int) = ((1024 * k + r : Nat) : Int) by omega]
                refine (rWord_any s a b c _ _).mono ?_
                rintro e w1 ⟨rfl, hb1⟩
                have hWl' := hWl.out
                obtain ⟨W, hW⟩ : ∃ W, W = M.word s a b c ((1024 * k + r : Nat) : Int) := ⟨_, rfl⟩
                rw [← hW] at HMX hWl' ⊢
                clear hW hWl
                have XF := Lib.hid (xor_i64 l (M.mixh s a b c (M.hf n) k r) (by omega) (by omega))
                obtain ⟨x, hx⟩ : ∃ x, x = M.mixh s a b c (M.hf n) k r := ⟨_, rfl⟩
                rw [← hx] at HMX hmx XF
                have HX := Lib.hid hx
                clear hx
                have hme := HMX.out
                go_wp2_with fail
                refine ⟨⟨k + 1, by omega, by go_num, ?_, ?_, hB.trans (hb1.mono (by have := hB.size; simp at this; omega))⟩, by simp [intOf]; omega⟩
                · rw [hstep.out]; rfl
                · rw [hstep.out, XF.out, HX.out]; rfl
              · obtain rfl : k = 4 := by omega
                have HF4 := Lib.hid (hflat.out rfl)
                have hlz : l * z ≤ 65280 := Nat.le_trans (Nat.mul_le_mul (show l ≤ 255 by omega) h256) (by decide)
                obtain ⟨lz, hlzq⟩ : ∃ lz, lz = l * z := ⟨_, rfl⟩
                rw [← hlzq] at hlz
                have hlm : (l : Int) * (z : Int) = (lz : Int) := by rw [hlzq]; exact (Int.natCast_mul l z).symm
                have HE := Lib.hid (show lz + r = M.thr s a b c n y by rw [← HF4.out, hlzq, HZ.out]; rfl)
                have HV := Lib.hid (show wrap64 (wrap64 ((l : Int) * (z : Int)) + (r : Int)) = ((M.thr s a b c n y : Nat) : Int) from (flat_i64 hlzq hlz hr).trans (congrArg (fun q : Nat => (q : Int)) HE.out))
                clear hlm hlzq
                go_wp2_with fail
                have hm0 := HM0.out
                subst hm0
                exact ⟨⟨1, _, by omega, HON.out, hlt.out y HY.out, by rw [HV.out], rfl, hB⟩, by simp [intOf]; omega⟩
          · have hyn : n ≤ y := by omega
            have hdec : decide ((m : Int) = 0) = false := decide_eq_false (by omega)
            have hbq : ((m : Int) == 0) = false := beq_eq_false_iff_ne.2 (by omega)
            have hdn : decide (n ≤ y) = true := decide_eq_true hyn
            clear hstop
            go_wp2_with fail
            rw [quo_form HZ.out hy16, rem_form HZ.out]
            go_loopw [10, 11, 12, 13, 14] (fun l r t _ _ wr => ∃ k : Nat, k ≤ 4 ∧ t = .int .i64 (k : Int) ∧ l = .int .i64 ((M.runs (M.mixh s a b c (M.hf n)) k (M.fold (M.hf n) y)).1 : Nat) ∧ r = .int .i64 ((M.runs (M.mixh s a b c (M.hf n)) k (M.fold (M.hf n) y)).2 : Nat) ∧ Below (w.heap.size + 1) (w.alloc (Obj.cells #[.int .u64 (s : Int), .int .i64 a, .int .i64 b, .int .i64 c] 28)) wr)
              (fun _ _ t _ _ _ => 4 - (intOf t).toNat)
            case atStart => exact ⟨0, by omega, rfl, rfl, rfl, hB⟩
            case round =>
              clear hB
              obtain ⟨k, hk, rfl, rfl, rfl, hB⟩ := hrel
              have hin := M.runs_in (b := M.hf n) (mix := M.mixh s a b c (M.hf n)) (fun t r => M.mixh_lt s a b c (M.hf n) t r) k (M.fold_in HY.out)
              have hstep := Lib.hid (M.runs_succ (M.mixh s a b c (M.hf n)) k (M.fold (M.hf n) y))
              have hflat := Lib.hid (show k = 4 → M.flat (M.hf n) (M.runs (M.mixh s a b c (M.hf n)) k (M.fold (M.hf n) y)) = M.thr s a b c n y from fun e => by subst e; rfl)
              obtain ⟨p, hp⟩ : ∃ p, p = M.runs (M.mixh s a b c (M.hf n)) k (M.fold (M.hf n) y) := ⟨_, rfl⟩
              rw [← hp] at hin hstep hflat ⊢
              clear hp
              obtain ⟨l, r⟩ := p
              have hl : l < 256 := Nat.lt_of_lt_of_le (by rw [HZ.out]; exact hin.1) h256
              have hr : r < 256 := Nat.lt_of_lt_of_le (by rw [HZ.out]; exact hin.2) h256
              have HIN := Lib.hid hin
              clear hin
              by_cases hk4 : k < 4
              · obtain ⟨k0, k1, k2, k3⟩ := key_cells hB
                have hmx : M.mixh s a b c (M.hf n) k r < 256 := Nat.lt_of_lt_of_le (by rw [HZ.out]; exact M.mixh_lt s a b c (M.hf n) k r) h256
                have HMX := Lib.hid (show (((M.word s a b c ((1024 * k + r : Nat) : Int) : Nat) : Int) % (z : Int)) = ((M.mixh s a b c (M.hf n) k r : Nat) : Int) by rw [HZ.out]; exact (Int.natCast_emod _ _).symm)
                have hWl := Lib.hid (M.word_lt s a b c ((1024 * k + r : Nat) : Int))
                go_wp2_with fail
                rw [show 1024 * (k : Int) + (r : Int) = ((1024 * k + r : Nat) : Int) by omega]
                refine (rWord_any s a b c _ _).mono ?_
                rintro e w1 ⟨rfl, hb1⟩
                have hWl' := hWl.out
                obtain ⟨W, hW⟩ : ∃ W, W = M.word s a b c ((1024 * k + r : Nat) : Int) := ⟨_, rfl⟩
                rw [← hW] at HMX hWl' ⊢
                clear hW hWl
                have XF := Lib.hid (xor_i64 l (M.mixh s a b c (M.hf n) k r) (by omega) (by omega))
                obtain ⟨x, hx⟩ : ∃ x, x = M.mixh s a b c (M.hf n) k r := ⟨_, rfl⟩
                rw [← hx] at HMX hmx XF
                have HX := Lib.hid hx
                clear hx
                have hme := HMX.out
                go_wp2_with fail
                refine ⟨⟨k + 1, by omega, by go_num, ?_, ?_, hB.trans (hb1.mono (by have := hB.size; simp at this; omega))⟩, by simp [intOf]; omega⟩
                · rw [hstep.out]; rfl
                · rw [hstep.out, XF.out, HX.out]; rfl
              · obtain rfl : k = 4 := by omega
                have HF4 := Lib.hid (hflat.out rfl)
                have hlz : l * z ≤ 65280 := Nat.le_trans (Nat.mul_le_mul (show l ≤ 255 by omega) h256) (by decide)
                obtain ⟨lz, hlzq⟩ : ∃ lz, lz = l * z := ⟨_, rfl⟩
                rw [← hlzq] at hlz
                have hlm : (l : Int) * (z : Int) = (lz : Int) := by rw [hlzq]; exact (Int.natCast_mul l z).symm
                have HE := Lib.hid (show lz + r = M.thr s a b c n y by rw [← HF4.out, hlzq, HZ.out]; rfl)
                have HV := Lib.hid (show wrap64 (wrap64 ((l : Int) * (z : Int)) + (r : Int)) = ((M.thr s a b c n y : Nat) : Int) from (flat_i64 hlzq hlz hr).trans (congrArg (fun q : Nat => (q : Int)) HE.out))
                clear hlm hlzq
                go_wp2_with fail
                exact ⟨⟨m + 1, _, hmlt, HON.out, hlt.out y HY.out, by rw [HV.out], by go_num, hB⟩, by simp [intOf]; omega⟩
        · have hyn : y < n := by omega
          have hdec : decide ((m : Int) = 0) = false := decide_eq_false (by omega)
          have hbq : ((m : Int) == 0) = false := beq_eq_false_iff_ne.2 (by omega)
          have hdn : decide (n ≤ y) = false := decide_eq_false (by omega)
          have HP := Lib.hid (HWENT.out.place (by omega) hyn)
          clear hstop
          go_wp2_with fail
          go_ret
          rw [show (y : Int) = ((M.plc s a b c n i : Nat) : Int) from congrArg (fun q : Nat => (q : Int)) HP.out.symm]
          exact ⟨rfl, ((Below.refl _ _).alloc (Nat.le_refl _) _).trans (hB.mono (by omega))⟩

end Go.Proofs.Ytcojiienmmmihaa
