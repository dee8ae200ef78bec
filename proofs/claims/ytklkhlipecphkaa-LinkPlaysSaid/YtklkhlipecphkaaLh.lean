/- Link: the law LinkFlips. -/
import Derived.Test.YtklkhlipecphkaaLg
namespace Go.Proofs.Ytklkhlipecphkaa
open Go.RowKit Go.Joins Go.Maps
set_option maxRecDepth 100000
set_option linter.unusedVariables false

/-- What a slice of bytes that came in is. -/
def IsBytes (w : World) (a : Option Addr) (len cap : Nat) (zs : List Int) : Prop :=
  (a = none ∧ len = 0 ∧ cap = 0 ∧ zs = []) ∨
  ∃ x, a = some x ∧ len ≤ cap ∧ cap ≤ maxLen ∧ zs.length = cap ∧ (∀ i, i < zs.length → w.cell? (x.add i) = some (.int .u8 (zs.getD i 0))) ∧ (∀ n ∈ zs, (Lit.int .u8 n).wf = true)
theorem u8_range {n : Int} (h : (Lit.int .u8 n).wf = true) : 0 ≤ n ∧ n < 256 := by
  simp [Lit.wf] at h
  have e1 : IntKind.u8.min = 0 := rfl
  have e2 : IntKind.u8.max = 255 := rfl
  omega
theorem flip_small : ∀ (x : Fin 256) (r : Fin 8), flipb (flipb (x.val : Int) r.val) r.val = (x.val : Int) := by decide +kernel
theorem flipb_flipb {x : Int} (h : 0 ≤ x ∧ x < 256) {r : Nat} (hr : r < 8) : flipb (flipb x r) r = x := by
  have := flip_small ⟨x.toNat, by omega⟩ ⟨r, hr⟩
  simpa [Int.toNat_of_nonneg h.1] using this
theorem flip_flip {L : List Int} (h : ∀ x ∈ L, 0 ≤ x ∧ x < 256) {bit : Nat} (hb : bit < 8 * L.length) : flip (flip L bit) bit = L := by
  have hk : bit / 8 < L.length := by omega
  unfold flip
  have e : nth (L.set (bit / 8) (flipb (nth L (bit / 8)) (bit % 8))) (bit / 8) = flipb (nth L (bit / 8)) (bit % 8) := by
    simp [nth, List.getD_eq_getElem?_getD, hk]
  rw [e, List.set_set]
  have hx : nth L (bit / 8) = L[bit / 8] := by simp [nth, List.getD_eq_getElem?_getD, hk]
  rw [flipb_flipb (by rw [hx]; exact h _ (List.getElem_mem hk)) (by omega), hx]
  exact List.set_getElem_self hk
theorem flip_grown {w w' : World} {u : Value} (ch : Chg (fun k => some k = u.ownBlock) w w') : w.grownBy w' u.ownBlock := ⟨ch.os, ch.tape, ch.output, ch.size, fun k hk hn => ch.block k hk hn⟩
theorem rows_apart {w : World} {b1 b2 e1 e2 s1 s2 n1 n2 : Nat} {v1 v2 : Value} {x1 x2 : List Value} (h1 : w.ownsRow b1 e1 s1 v1 n1 x1) (h2 : w.ownsRow b2 e2 s2 v2 n2 x2) (he : e1 ≠ e2) : v1.ownBlock = none ∨ v1.ownBlock ≠ v2.ownBlock := by
  cases hk : v1.ownBlock with
  | none => exact .inl rfl
  | some k =>
    obtain ⟨c, hc⟩ := row_type h1 hk
    exact .inr (row_ne h2 hc he)
theorem Net.flip {N B M : Nat} {nodes most : Int} {f : Lit → Option Value} {n : Nat} {w w' : World} (h : Net N B M nodes most f n w) {Nb n0 : Nat} {u : Value} {xs : List Value} (hu : w.ownsRow Nb 5 1 u n0 xs) (ch : Chg (fun k => some k = u.ownBlock) w w') : Net N B M nodes most f n w' := by
  obtain ⟨es, cl, hm⟩ := rows_isMap h.map
  exact h.kept (flip_grown ch) (row_ne hu h.box (by decide)) (row_ne_map hu hm)
theorem lay_keeps {N B M : Nat} {nodes most : Int} {f : Lit → Option Value} {n : Nat} {w w' : World} (h : Net N B M nodes most f n w) {Nb n0 : Nat} {v : Value} {xs : List Value} (hv : w.ownsRow Nb 34 1 v n0 xs) (ch : Chg (fun k => some k = v.ownBlock ∨ k = M) w w') : Keeps is5 w w' := by
  obtain ⟨es, cl, hm⟩ := rows_isMap h.map
  refine ch.keeps (fun k o hk ho => ?_)
  rcases hk with hk | rfl
  · obtain ⟨c, rfl⟩ := row_obj hv hk.symm ho
    exact not5 _ _ _ (by decide)
  · rw [hm] at ho
    cases ho
    exact not5m _ _
theorem take_keeps {N B M : Nat} {nodes most : Int} {f : Lit → Option Value} {n : Nat} {w w' : World} (h : Net N B M nodes most f n w) (ch : Chg (fun k => k = M) w w') : Keeps is5 w w' := by
  obtain ⟨es, cl, hm⟩ := rows_isMap h.map
  refine ch.keeps (fun k o hk ho => ?_)
  subst hk
  rw [hm] at ho
  cases ho
  exact not5m _ _

set_option maxHeartbeats 1000000 in
theorem LinkFlips_more (oa : Option Addr) (len cap : Nat) (bit : Int) (again : Bool) (w : World) (h : 300 < len) : Calls Try.prog 6 #[.slice oa len cap, .int .i64 bit, .bool again] w fun e w' => e = .returned (.bool true) ∧ Below w.heap.size w w' := by
  have d1 : decide (300 < (len : Int)) = true := decide_eq_true (by omega)
  go_enter Try.func6, Try.ntmps6
  go_wp2_with fail
  refine (awake16_yes _).mono ?_
  rintro e w1 ⟨rfl, hb⟩
  have HB := Lib.hid hb
  clear hb
  go_wp2_with fail
  go_ret
  exact ⟨rfl, HB.out⟩
set_option maxHeartbeats 1000000 in
theorem LinkFlips_neg (oa : Option Addr) (len cap : Nat) (bit : Int) (again : Bool) (w : World) (h : len ≤ 300) (hb : bit < 0) : Calls Try.prog 6 #[.slice oa len cap, .int .i64 bit, .bool again] w fun e w' => e = .returned (.bool true) ∧ Below w.heap.size w w' := by
  have d1 : decide (300 < (len : Int)) = false := decide_eq_false (by omega)
  have d2 : decide (bit < 0) = true := decide_eq_true (by omega)
  go_enter Try.func6, Try.ntmps6
  go_wp2_with fail
  refine (awake16_yes _).mono ?_
  rintro e w1 ⟨rfl, hb⟩
  have HB := Lib.hid hb
  clear hb
  go_wp2_with fail
  go_ret
  exact ⟨rfl, HB.out⟩
set_option maxHeartbeats 1000000 in
theorem LinkFlips_high (oa : Option Addr) (len cap : Nat) (bit : Int) (again : Bool) (w : World) (h : len ≤ 300) (h0 : 0 ≤ bit) (hb : 8 * (len : Int) ≤ bit) : Calls Try.prog 6 #[.slice oa len cap, .int .i64 bit, .bool again] w fun e w' => e = .returned (.bool true) ∧ Below w.heap.size w w' := by
  have d1 : decide (300 < (len : Int)) = false := decide_eq_false (by omega)
  have d2 : decide (bit < 0) = false := decide_eq_false (by omega)
  have ew : IntKind.i64.wrap (8 * (len : Int)) = 8 * (len : Int) := by rw [IntKind.wrap_i64]; omega
  have d3 : decide (8 * (len : Int) ≤ bit) = true := decide_eq_true hb
  go_enter Try.func6, Try.ntmps6
  go_wp2_with fail
  refine (awake16_yes _).mono ?_
  rintro e w1 ⟨rfl, hb⟩
  have HB := Lib.hid hb
  clear hb
  go_wp2_with fail
  go_ret
  exact ⟨rfl, HB.out⟩

theorem Src_cells {w w' : World} {ad : Addr} {n cap : Nat} {bs : List Value} (h : Src w (.slice (some ad) n cap) bs) (hb : Below w.heap.size w w') : ∀ j u, bs[j]? = some u → w'.cell? (ad.add j) = some u := by
  rcases h.below hb with ⟨a, c, e, hc⟩ | ⟨e, _⟩
  · simp at e
    obtain ⟨rfl, _, _⟩ := e
    exact hc
  · simp at e
theorem want_form {w : World} {base e size n : Nat} {v : Value} {xs : List Value} (h : w.ownsRow base e size v n xs) (hn : 0 < n) : ∃ g cu, v = .slice (some ⟨g, 0, none⟩) n cu := by
  rcases ownsRow_forms h with ⟨h, h0⟩ | ⟨g, cp, h⟩
  · omega
  · exact ⟨g, cp, h⟩
set_option maxHeartbeats 8000000 in
theorem LinkFlips_main (ad : Addr) (len cap : Nat) (L : List Int) (bit : Nat) (again : Bool) (w : World) (hL : L.length = len) (h : len ≤ 300) (hbit : bit < 8 * len) (hc : ∀ j u, (by8 L)[j]? = some u → w.cell? (ad.add j) = some u) (hr : ∀ x ∈ L, 0 ≤ x ∧ x < 256) :
    Calls Try.prog 6 #[.slice (some ad) len cap, .int .i64 (bit : Int), .bool again] w fun e w' => e = .returned (.bool true) ∧ Below w.heap.size w w' := by
  obtain ⟨kl, hkl⟩ := key_some 1 0 k10
  have HK := Lib.hid hkl; have HLL := Lib.hid hL; have HCC := Lib.hid hc; have HRR := Lib.hid hr
  have hsrc : Src w (.slice (some ad) len cap) (by8 L) := .inl ⟨ad, cap, by rw [by8_len, hL], hc⟩
  have HS := Lib.hid hsrc
  have hreads : Reads w (.slice (some ad) len cap) L := ⟨some ad, cap, by rw [hL], fun j hj => ⟨ad, rfl, hc j _ (by simp [by8, nth, List.getD_eq_getElem?_getD, hj])⟩⟩
  have HRD := Lib.hid hreads
  clear hkl hL hc hr hsrc hreads
  have d1 : decide (300 < (len : Int)) = false := decide_eq_false (by omega)
  have d2 : decide ((bit : Int) < 0) = false := decide_eq_false (by omega)
  have ew : IntKind.i64.wrap (8 * (len : Int)) = 8 * (len : Int) := by rw [IntKind.wrap_i64]; omega
  have d3 : decide (8 * (len : Int) ≤ (bit : Int)) = false := decide_eq_false (by omega)
  go_enter Try.func6, Try.ntmps6
  go_wp2_with fail
  refine (awake16_yes _).mono ?_
  rintro e w1 ⟨rfl, hb⟩
  have HB1 := Lib.hid hb
  clear hb
  go_wp2_with fail
  refine (lNew_yes 2 2 w1 (by omega) (by omega) (by omega) (by omega)).mono ?_
  rintro e w2 ⟨B, M, rfl, hnet, hb2⟩
  have HN2 := Lib.hid hnet; have HB2 := Lib.hid (HB1.out.trans (hb2.mono HB1.out.size))
  have hNw : w.heap.size ≤ w1.heap.size := HB1.out.size
  clear hnet hb2
  obtain ⟨N, hN⟩ : ∃ N, N = w1.heap.size := ⟨_, rfl⟩
  rw [← hN] at HN2 hNw
  clear hN
  go_wp2_with fail
  refine (Send_ok HN2.out (by simp [maxLen]) HK.out (by omega) (by omega) (by omega) (by omega) (by omega) (us := []) (World.ownsRow_nil _ _ _ _) (by simp) (by omega) (HS.out.below HB2.out) (by rw [by8_len, HLL.out]; omega) (by8_one _)).mono ?_
  rintro e w3 ⟨rfl, v3, u1, n3, rw3, msg3, fr3, ch3, -⟩
  have cb3 : Below w.heap.size w w3 := HB2.out.trans (ch3.below HB2.out.size (fun k hk => by
    rcases hk with hk | rfl
    · simp [Value.ownBlock] at hk
    · exact Nat.le_trans hNw HN2.out.hM))
  obtain ⟨q1, c1, rfl⟩ : ∃ g cu, u1 = .slice (some ⟨g, 0, none⟩) len cu := by
    rw [by8_len, HLL.out] at msg3
    rcases ownsRow_forms msg3 with ⟨h, h0⟩ | ⟨g, cp, h⟩
    · omega
    · exact ⟨g, cp, h⟩
  have HN3 := Lib.hid n3; have HR3 := Lib.hid rw3; have HM3 := Lib.hid msg3; have HB3 := Lib.hid cb3
  clear n3 rw3 msg3 fr3 ch3 cb3
  go_wp2_with fail
  have r3 : w3.ownsRow N 34 1 ((lupd (fun _ => none) kl (some v3) kl).getD (.slice none 0 0)) 1 [.slice (some ⟨q1, 0, none⟩) len c1] := by rw [lupd_same]; exact HR3.out
  have HR3' := Lib.hid r3
  clear r3
  refine (Double_ok HN3.out (by simp [maxLen]) HK.out (by omega) (by omega) (by omega) (by omega) (by omega) (us := [.slice (some ⟨q1, 0, none⟩) len c1]) HR3'.out (by simp) (by omega) (i := 0) rfl (Src.of_own HM3.out) (by rw [by8_len, HLL.out]; omega) (by8_one _)).mono ?_
  rintro e w4 ⟨rfl, v4, u2, n4, rw4, msg4, fr4, ch4, -⟩
  have m1_4 := msg_keeps HM3.out (lay_keeps HN3.out HR3'.out ch4)
  have cb4 : Below w.heap.size w w4 := HB3.out.trans (ch4.below HB3.out.size (fun k hk => by
    rcases hk with hk | rfl
    · exact Nat.le_trans hNw (HR3'.out.lt k hk.symm).1
    · exact Nat.le_trans hNw HN3.out.hM))
  have hne : u2.ownBlock ≠ (Value.slice (some ⟨q1, 0, none⟩) len c1).ownBlock := by
    intro e
    have := fr4 q1 (by rw [e]; rfl)
    have := (HM3.out.lt q1 rfl).2
    omega
  obtain ⟨q2, c2, rfl⟩ : ∃ g cu, u2 = .slice (some ⟨g, 0, none⟩) len cu := by
    rw [by8_len, HLL.out] at msg4
    rcases ownsRow_forms msg4 with ⟨h, h0⟩ | ⟨g, cp, h⟩
    · omega
    · exact ⟨g, cp, h⟩
  obtain ⟨f4, hf4⟩ : ∃ f4, f4 = lupd (lupd (fun _ => none) kl (some v3)) kl (some v4) := ⟨_, rfl⟩
  have r4 : w4.ownsRow N 34 1 ((f4 kl).getD (.slice none 0 0)) 2 [.slice (some ⟨q1, 0, none⟩) len c1, .slice (some ⟨q2, 0, none⟩) len c2] := by rw [hf4, lupd_same]; exact rw4
  rw [← hf4] at n4
  have HN4 := Lib.hid n4; have HR4 := Lib.hid r4; have HM4 := Lib.hid m1_4; have HM4' := Lib.hid msg4; have HB4 := Lib.hid cb4; have HNE := Lib.hid hne
  clear n4 r4 rw4 hf4 m1_4 msg4 fr4 ch4 cb4 hne
  go_wp2_with fail
  refine (Flip_ok HN4.out HK.out (by omega) (by omega) (by omega) (by omega) (by omega) HR4.out (i := 0) rfl HM4.out (bit := bit) (by rw [HLL.out]; exact hbit) (by rw [HLL.out]; omega)).mono ?_
  rintro e w5 ⟨rfl, m1_5, ch5⟩
  have n5 := HN4.out.flip HM4.out ch5
  have r5 := HR4.out.kept (flip_grown ch5) (rows_apart HR4.out HM4.out (by decide))
  have m2_5 := HM4'.out.kept (flip_grown ch5) (.inr HNE.out)
  have cb5 : Below w.heap.size w w5 := HB4.out.trans (ch5.below HB4.out.size (fun k hk => Nat.le_trans hNw (HM4.out.lt k hk.symm).1))
  obtain ⟨i5, gi, gz0, gz1, gz2⟩ := info_parts info5
  have own0 := World.ownsRow_lit (base := w5.heap.size) (e := 5) (size := 1) w5 #[] 0 (Nat.le_refl _) (by simp [maxLen]) rfl
  have hA5 := (Below.refl w5.heap.size w5).alloc (Nat.le_refl _) (.cells #[] 5)
  have HN5 := Lib.hid n5; have HR5 := Lib.hid r5; have HM5 := Lib.hid m1_5; have HM5' := Lib.hid m2_5; have HB5 := Lib.hid cb5; have HO0 := Lib.hid own0; have HA5 := Lib.hid hA5
  have HI5 := Lib.hid gi; have HZ0 := Lib.hid gz0; have HZ1 := Lib.hid gz1; have HZ2 := Lib.hid gz2
  clear n5 r5 m1_5 m2_5 cb5 ch5 own0 hA5 gi gz0 gz1 gz2
  go_wp2_with (at_builtin; refine wpList_append_own _ rfl (.tmp 53) (.tmp 54) 34 rfl w5.heap.size 5 i5 (.int .u8 0) 1 1 Try.underlying34 HI5.out HZ0.out HZ1.out HZ2.out rfl (by decide) _ 0 [] rfl HO0.out ad len cap (by8 L) rfl (by rw [by8_len, HLL.out]; omega) (Src_cells HS.out (HB5.out.trans (HA5.out.mono HB5.out.size))) (by8_one _) (by unfold maxLen; omega) (by omega) (by rw [World.size_alloc]; omega) ?_; intro want w6 hown hg6 _hh; clear _hh; rw [Nat.zero_add, List.nil_append] at hown; have cb6 : Below w5.heap.size w5 w6 := HA5.out.grown hg6 (by rw [World.size_alloc]; omega) (fun k e => by cases e; exact Nat.le_refl _); obtain ⟨p, cw, rfl⟩ : ∃ g cu, want = .slice (some ⟨g, 0, none⟩) len cu := want_form hown (by omega); have HO6 := Lib.hid hown; have HB6 := Lib.hid cb6; clear hown hg6 cb6)
  · -- again
    refine (Flip_ok (HN5.out.below HB6.out) HK.out (by omega) (by omega) (by omega) (by omega) (by omega) (us := [.slice (some ⟨q1, 0, none⟩) len c1, .slice (some ⟨q2, 0, none⟩) len c2]) (row_below HR5.out HB6.out) (i := 0) rfl (row_below HM5.out HB6.out) (bit := bit) (by rw [flip_len, HLL.out]; exact hbit) (by rw [flip_len, HLL.out]; omega)).mono ?_
    rintro e w7 ⟨rfl, m1_7, ch7⟩
    rw [flip_flip HRR.out (by rw [HLL.out]; exact hbit)] at m1_7
    have n7 := (HN5.out.below HB6.out).flip (row_below HM5.out HB6.out) ch7
    have r7 := (row_below HR5.out HB6.out).kept (flip_grown ch7) (rows_apart (row_below HR5.out HB6.out) (row_below HM5.out HB6.out) (by decide))
    have m2_7 := (row_below HM5'.out HB6.out).kept (flip_grown ch7) (.inr HNE.out)
    have o7 := HO6.out.kept (flip_grown ch7) (.inr (fun e => by
      have a1 := (HO6.out.lt p rfl).1
      have a2 := (HM5.out.lt q1 rfl).2
      have e2 : p = q1 := by simpa [Value.ownBlock] using e
      omega))
    have cb7 : Below w.heap.size w w7 := (HB5.out.trans (HB6.out.mono HB5.out.size)).trans (ch7.below (HB5.out.trans (HB6.out.mono HB5.out.size)).size (fun k hk => Nat.le_trans hNw (HM5.out.lt k hk.symm).1))
    have o7' : w7.ownsRow w5.heap.size 5 1 (.slice (some ⟨p, 0, none⟩) len cw) (by8 L).length (by8 L) := by rw [by8_len, HLL.out]; exact o7
    have HN7 := Lib.hid n7; have HR7 := Lib.hid r7; have HM7 := Lib.hid m1_7; have HM7' := Lib.hid m2_7; have HO7 := Lib.hid o7'; have HB7 := Lib.hid cb7; have HLX := HLL
    clear n7 r7 m1_7 m2_7 o7 o7' cb7 ch7
    go_wp2_with fail
    refine (Take_ok HN7.out (by simp [maxLen]) HK.out (by omega) (by omega) (by omega) (by omega) (by omega) (us := [.slice (some ⟨q1, 0, none⟩) len c1, .slice (some ⟨q2, 0, none⟩) len c2]) HR7.out (by simp) (fun x hx => by simp at hx; rcases hx with rfl | rfl <;> rfl) (i := 0) rfl).mono ?_
    rintro e w8 ⟨rfl, v8, n8', hn8, n8, rw8, fr8, ch8⟩
    have kp8 := take_keeps HN7.out ch8
    have hk8 := HM7.out
    have r8 : w8.ownsRow N 34 1 ((lupd f4 kl v8 kl).getD (.slice none 0 0)) 1 [.slice (some ⟨q2, 0, none⟩) len c2] := by rw [lupd_same]; exact rw8
    have cb8 : Below w.heap.size w w8 := HB7.out.trans (ch8.below HB7.out.size (fun k hk => by rw [hk]; exact Nat.le_trans hNw HN7.out.hM))
    have HN8 := Lib.hid n8; have HR8 := Lib.hid r8; have HM8 := Lib.hid (msg_keeps HM7.out kp8); have HM8' := Lib.hid (msg_keeps HM7'.out kp8); have HO8 := Lib.hid (msg_keeps HO7.out kp8); have HB8 := Lib.hid cb8
    clear n8 r8 rw8 fr8 ch8 kp8 cb8 hk8
    go_wp2_with fail
    refine (Take_ok HN8.out (by simp [maxLen]; omega) HK.out (by omega) (by omega) (by omega) (by omega) (by omega) (us := [.slice (some ⟨q2, 0, none⟩) len c2]) HR8.out (by simp) (fun x hx => by simp at hx; subst hx; rfl) (i := 0) rfl).mono ?_
    rintro e w9 ⟨rfl, v9, n9', hn9, n9, rw9, fr9, ch9⟩
    have kp9 := take_keeps HN8.out ch9
    have cb9 : Below w.heap.size w w9 := HB8.out.trans (ch9.below HB8.out.size (fun k hk => by rw [hk]; exact Nat.le_trans hNw HN8.out.hM))
    have HM9 := Lib.hid (Reads.of_owns (msg_keeps HM8.out kp9)); have HM9' := Lib.hid (Reads.of_owns (msg_keeps HM8'.out kp9)); have HO9 := Lib.hid (Reads.of_owns (msg_keeps HO8.out kp9)); have HB9 := Lib.hid cb9
    clear n9 rw9 fr9 ch9 kp9 cb9
    go_wp2_with fail
    refine (Same_any _ _ L L _ HM9.out HO9.out (by rw [HLX.out]; unfold maxLen; omega) (by rw [HLX.out]; unfold maxLen; omega)).mono ?_
    rintro e w10 ⟨rfl, hb10⟩
    have ex : decide (L = L) = true := decide_eq_true rfl
    have HB10 := Lib.hid hb10
    clear hb10
    go_wp2_with fail
    refine (Same_any _ _ L L _ (HM9'.out.below HB10.out) (HRD.out.below (HB9.out.trans (HB10.out.mono HB9.out.size))) (by rw [HLL.out]; unfold maxLen; omega) (by rw [HLL.out]; unfold maxLen; omega)).mono ?_
    rintro e w11 ⟨rfl, hb11⟩
    have ex2 : decide (L = L) = true := decide_eq_true rfl
    have HB11 := Lib.hid hb11
    clear hb11
    go_wp2_with fail
    go_ret
    have z1 := HB9.out.trans (HB10.out.mono HB9.out.size)
    exact ⟨rfl, z1.trans (HB11.out.mono z1.size)⟩
  · -- once
    obtain ⟨x, hx⟩ : ∃ x, x = nth L (bit / 8) := ⟨_, rfl⟩
    obtain ⟨k, hk⟩ : ∃ k, k = bit / 8 := ⟨_, rfl⟩
    obtain ⟨r, hr⟩ : ∃ r, r = bit % 8 := ⟨_, rfl⟩
    have q1' : Int.tdiv (bit : Int) 8 = (k : Int) := by rw [Int.tdiv_eq_ediv_of_nonneg (by omega)]; omega
    have q2' : Int.tmod (bit : Int) 8 = (r : Int) := by rw [Int.tmod_eq_emod_of_nonneg (by omega)]; omega
    have hkl : k < len := by omega
    have hr8 : r < 8 := by omega
    have cx : w6.cell? ⟨p, k, none⟩ = some (.int .u8 x) := by
      rw [HO6.out.cellAt k (by omega), hx, ← hk]
      have : k < L.length := by rw [HLL.out]; exact hkl
      simp [by8, nth, List.getD_eq_getElem?_getD, this]
    have fx : w6.frozen? ⟨p, k, none⟩ = false := HO6.out.frozenAt k
    have dk : decide ((k : Int) < (len : Int)) = true := decide_eq_true (by omega)
    have HKK := Lib.hid hk; have HRR' := Lib.hid hr; have HX := Lib.hid hx
    have n6 := HN5.out.below HB6.out
    have r6 := row_below HR5.out HB6.out
    have m1_6 := row_below HM5.out HB6.out
    have m2_6 := row_below HM5'.out HB6.out
    have cb6 := HB5.out.trans (HB6.out.mono HB5.out.size)
    have hp : w5.heap.size ≤ p := (HO6.out.lt p rfl).1
    have st := HO6.out.stored k (.int .u8 (bits BinOp.xor .u8 x (2 ^ r % 256)))
    obtain ⟨w7, hw7⟩ : ∃ w7, w7 = (w6.setCell ⟨p, k, none⟩ (.int .u8 (bits BinOp.xor .u8 x (2 ^ r % 256)))).drew := ⟨_, rfl⟩
    have g7 : w6.grownBy w7 (some p) := by rw [hw7]; exact ⟨st.2.os, st.2.tape, st.2.output, st.2.size, st.2.block⟩
    have o7 : w7.ownsRow w5.heap.size 5 1 (.slice (some ⟨p, 0, none⟩) len cw) (by8 (flip L bit)).length (by8 (flip L bit)) := by
      have e : by8 (flip L bit) = (by8 L).set k (.int .u8 (bits BinOp.xor .u8 x (2 ^ r % 256))) := by
        rw [flip, by8_set, hx, hk, hr]; rfl
      rw [e, List.length_set, by8_len, HLL.out, hw7]
      exact st.1.drew
    obtain ⟨es, cl, hmm⟩ := rows_isMap n6.map
    have n7 : Net N B M 2 2 f4 (0 + 1 + 1) w7 := n6.kept g7 (row_ne HO6.out n6.box (by decide)) (row_ne_map HO6.out hmm)
    have r7 := r6.kept g7 (rows_apart r6 HO6.out (by decide))
    have m1_7 := m1_6.kept g7 (.inr (fun e => by
      have e2 : q1 = p := by simpa [Value.ownBlock] using e
      have := (HM5.out.lt q1 rfl).2
      omega))
    have m2_7 := m2_6.kept g7 (.inr (fun e => by
      have e2 : q2 = p := by simpa [Value.ownBlock] using e
      have := (HM5'.out.lt q2 rfl).2
      omega))
    have cb7 : Below w.heap.size w w7 := cb6.grown g7 cb6.size (fun z e => by cases e; have := HB5.out.size; omega)
    have HN7 := Lib.hid n7; have HR7 := Lib.hid r7; have HM7 := Lib.hid m1_7; have HM7' := Lib.hid m2_7; have HO7 := Lib.hid o7; have HB7 := Lib.hid cb7
    have HLX : Hid ((flip L bit).length = len) := Lib.hid (by rw [flip_len, HLL.out])
    have HW7 := Lib.hid hw7
    clear n7 r7 m1_7 m2_7 o7 cb7 n6 r6 m1_6 m2_6 cb6 st hw7 g7 hmm hk hr hx
    go_region
    all_goals rw [← HW7.out]
    go_wp2_with fail
    refine (Take_ok HN7.out (by simp [maxLen]) HK.out (by omega) (by omega) (by omega) (by omega) (by omega) (us := [.slice (some ⟨q1, 0, none⟩) len c1, .slice (some ⟨q2, 0, none⟩) len c2]) HR7.out (by simp) (fun x hx => by simp at hx; rcases hx with rfl | rfl <;> rfl) (i := 0) rfl).mono ?_
    rintro e w8 ⟨rfl, v8, n8', hn8, n8, rw8, fr8, ch8⟩
    have kp8 := take_keeps HN7.out ch8
    have hk8 := HM7.out
    have r8 : w8.ownsRow N 34 1 ((lupd f4 kl v8 kl).getD (.slice none 0 0)) 1 [.slice (some ⟨q2, 0, none⟩) len c2] := by rw [lupd_same]; exact rw8
    have cb8 : Below w.heap.size w w8 := HB7.out.trans (ch8.below HB7.out.size (fun k hk => by rw [hk]; exact Nat.le_trans hNw HN7.out.hM))
    have HN8 := Lib.hid n8; have HR8 := Lib.hid r8; have HM8 := Lib.hid (msg_keeps HM7.out kp8); have HM8' := Lib.hid (msg_keeps HM7'.out kp8); have HO8 := Lib.hid (msg_keeps HO7.out kp8); have HB8 := Lib.hid cb8
    clear n8 r8 rw8 fr8 ch8 kp8 cb8 hk8
    go_wp2_with fail
    refine (Take_ok HN8.out (by simp [maxLen]; omega) HK.out (by omega) (by omega) (by omega) (by omega) (by omega) (us := [.slice (some ⟨q2, 0, none⟩) len c2]) HR8.out (by simp) (fun x hx => by simp at hx; subst hx; rfl) (i := 0) rfl).mono ?_
    rintro e w9 ⟨rfl, v9, n9', hn9, n9, rw9, fr9, ch9⟩
    have kp9 := take_keeps HN8.out ch9
    have cb9 : Below w.heap.size w w9 := HB8.out.trans (ch9.below HB8.out.size (fun k hk => by rw [hk]; exact Nat.le_trans hNw HN8.out.hM))
    have HM9 := Lib.hid (Reads.of_owns (msg_keeps HM8.out kp9)); have HM9' := Lib.hid (Reads.of_owns (msg_keeps HM8'.out kp9)); have HO9 := Lib.hid (Reads.of_owns (msg_keeps HO8.out kp9)); have HB9 := Lib.hid cb9
    clear n9 rw9 fr9 ch9 kp9 cb9
    go_wp2_with fail
    refine (Same_any _ _ (flip L bit) (flip L bit) _ HM9.out HO9.out (by rw [HLX.out]; unfold maxLen; omega) (by rw [HLX.out]; unfold maxLen; omega)).mono ?_
    rintro e w10 ⟨rfl, hb10⟩
    have ex : decide (flip L bit = flip L bit) = true := decide_eq_true rfl
    have HB10 := Lib.hid hb10
    clear hb10
    go_wp2_with fail
    refine (Same_any _ _ L L _ (HM9'.out.below HB10.out) (HRD.out.below (HB9.out.trans (HB10.out.mono HB9.out.size))) (by rw [HLL.out]; unfold maxLen; omega) (by rw [HLL.out]; unfold maxLen; omega)).mono ?_
    rintro e w11 ⟨rfl, hb11⟩
    have ex2 : decide (L = L) = true := decide_eq_true rfl
    have HB11 := Lib.hid hb11
    clear hb11
    go_wp2_with fail
    go_ret
    have z1 := HB9.out.trans (HB10.out.mono HB9.out.size)
    exact ⟨rfl, z1.trans (HB11.out.mono z1.size)⟩
theorem LinkFlips_row (oa : Option Addr) (len cap : Nat) (zs : List Int) (bit : Int) (again : Bool) (w : World) (hr : IsBytes w oa len cap zs) (hb : (Lit.int .i64 bit).wf = true) :
    Calls Try.prog 6 #[.slice oa len cap, .int .i64 bit, .bool again] w fun e w' => e = .returned (.bool true) ∧ Below w.heap.size w w' := by
  by_cases h1 : 300 < len
  · exact LinkFlips_more oa len cap bit again w h1
  by_cases h2 : bit < 0
  · exact LinkFlips_neg oa len cap bit again w (by omega) h2
  by_cases h3 : 8 * (len : Int) ≤ bit
  · exact LinkFlips_high oa len cap bit again w (by omega) (by omega) h3
  obtain ⟨k, rfl⟩ : ∃ k : Nat, bit = k := ⟨bit.toNat, by omega⟩
  rcases hr with ⟨rfl, rfl, rfl, rfl⟩ | ⟨x, rfl, hlc, hcm, hzl, hcell, hwf⟩
  · omega
  · have hl : (zs.take len).length = len := by rw [List.length_take]; omega
    refine LinkFlips_main x len cap (zs.take len) k again w hl (by omega) (by omega) (fun j u hu => ?_) (fun n hn => u8_range (hwf n (List.mem_of_mem_take hn)))
    have hj : j < len := by
      have := (List.getElem?_eq_some_iff.1 hu).1
      rw [by8_len] at this
      omega
    have e : u = .int .u8 (zs.getD j 0) := by
      rw [by8, List.getElem?_map, List.getElem?_take, if_pos hj] at hu
      rw [List.getD_eq_getElem?_getD]
      cases h : zs[j]? with
      | none => rw [h] at hu; simp at hu
      | some z => rw [h] at hu; simp at hu; simp [← hu]
    rw [e]
    exact hcell j (by omega)
end Go.Proofs.Ytklkhlipecphkaa
