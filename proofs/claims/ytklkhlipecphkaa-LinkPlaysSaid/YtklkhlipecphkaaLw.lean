/- Link: the program's functions as changes of the list of what waits. -/
import Derived.Test.YtklkhlipecphkaaLv
import Derived.Maps.RangeWalk
namespace Go.Proofs.Ytklkhlipecphkaa
open Go.RowKit Go.Joins Go.Maps
set_option maxRecDepth 100000
set_option linter.unusedVariables false

theorem rFlip_any {N C : Nat} {nodes most : Int} {va : Value} {rs : List Ml} {w : World} (h : RH N C nodes most va rs w) (a b : Int) {i bit : Int} (hi : (Lit.int .i64 i).wf = true) (hl : rs.length ≤ 1000) (h300 : ∀ m ∈ rs, m.L.length ≤ 300) :
    Calls Try.prog 56 #[.pointer (some ⟨C, 0, none⟩), .int .i64 a, .int .i64 b, .int .i64 i, .int .i64 bit] w (SPost N C nodes most va rs w (cFlip nodes (abs rs) a b i bit) (aFlip nodes (abs rs) a b i bit)) := by
  by_cases hc : cName nodes (abs rs) a b i = 0
  · by_cases hbit : bitOk (tTake nodes (abs rs) a b i) bit
    · obtain ⟨q, rfl⟩ : ∃ q : Nat, bit = q := ⟨bit.toNat, by have := hbit.1; omega⟩
      have e : cFlip nodes (abs rs) a b i q = 0 := by unfold cFlip; rw [if_pos hc, if_pos hbit]
      rw [e]
      exact rFlip_ok h a b hi hl h300 hc hbit
    · have e : cFlip nodes (abs rs) a b i bit = 2 := by unfold cFlip; rw [if_pos hc, if_neg hbit]
      have e2 : aFlip nodes (abs rs) a b i bit = abs rs := by unfold aFlip; rw [e, if_neg (by decide)]
      rw [e, e2]
      refine (rFlip_arg h a b hi hl h300 hc hbit).mono ?_
      rintro e w' ⟨rfl, rfl⟩
      exact ⟨rfl, RPost.same h (Below.refl _ _)⟩
  · have e : cFlip nodes (abs rs) a b i bit = cName nodes (abs rs) a b i := by unfold cFlip; rw [if_neg hc]
    have e2 : aFlip nodes (abs rs) a b i bit = abs rs := by unfold aFlip; rw [e, if_neg hc]
    rw [e, e2]
    refine (rFlip_bad h a b bit hi hl rfl hc).mono ?_
    rintro e w' ⟨rfl, rfl⟩
    exact ⟨rfl, RPost.same h (Below.refl _ _)⟩

/-- The blocks that the program's line may change. -/
def PS (M : Nat) (f : Lit → Option Value) (ps : List Ml) (k : Nat) : Prop := k = M ∨ (∃ kl, some k = blk f kl) ∨ ∃ m ∈ ps, m.v.ownBlock = some k
def PPost (N B M : Nat) (nodes most : Int) (f : Lit → Option Value) (n : Nat) (ps : List Ml) (w : World) (A : List Ab) (w' : World) : Prop :=
  ∃ f' n' ps', abs ps' = A ∧ n' ≤ n + 1 ∧ PH N B M nodes most f' n' ps' w' ∧ Chg (PS M f ps) w w' ∧ ∀ m ∈ ps', (∃ m0 ∈ ps, m0.v = m.v) ∨ ∀ k, m.v.ownBlock = some k → w.heap.size ≤ k
theorem PPost.same {N B M : Nat} {nodes most : Int} {f : Lit → Option Value} {n : Nat} {ps : List Ml} {w w' : World} (h : PH N B M nodes most f n ps w) (hb : Below w.heap.size w w') : PPost N B M nodes most f n ps w (abs ps) w' :=
  ⟨f, n, ps, rfl, by omega, h.below hb, (Chg.of_below (S := fun _ => False) hb).wide (fun _ _ s => s.elim), fun m hm => .inl ⟨m, hm, rfl⟩⟩
theorem PPost.of_lay {N B M : Nat} {nodes most : Int} {f : Lit → Option Value} {n : Nat} {ps : List Ml} {w w' : World} {a b : Int} {kl : Lit} {L : List Int} {e : Ending} (h : PH N B M nodes most f n ps w) (ho : OkW nodes a b) (hk : keyOf Try.prog 92 (wv a b) = some kl)
    (hlt : ((usOf ps a b).length : Int) < most) (hL : L.length ≤ 300) (hp : LayPost N B M nodes most f n kl (usOf ps a b) (by8 L) w e w') : PPost N B M nodes most f n ps w (abs ps ++ [(a, b, L)]) w' := by
  obtain ⟨f', u, h1, h2, h3⟩ := h.push ho hk hlt hL hp
  refine ⟨f', n + 1, _, abs_append ps _, Nat.le_refl _, h1, h3.wide (fun k _ s => ?_), fun m hm => ?_⟩
  · rcases s with s | s
    · exact .inr (.inl ⟨kl, s⟩)
    · exact .inl s
  · rcases List.mem_append.1 hm with hm | hm
    · exact .inl ⟨m, hm, rfl⟩
    · obtain rfl := List.mem_singleton.1 hm
      exact .inr h2

theorem pSend_any {N B M : Nat} {nodes most : Int} {f : Lit → Option Value} {n : Nat} {ps : List Ml} {w : World} (h : PH N B M nodes most f n ps w) (hn : n < maxLen) (h1 : 0 < nodes) (h2 : nodes ≤ 65) (hm : most ≤ 64) (a b : Int) {sv : Value} {L : List Int} (hs : Src w sv (by8 L)) (hL : L.length ≤ 300) :
    Calls Try.prog 18 #[.pointer (some ⟨B, 0, none⟩), .int .i64 a, .int .i64 b, sv] w fun e w' => e = .returned (.int .i64 (cSend nodes most (abs ps) a b)) ∧ PPost N B M nodes most f n ps w (aSend nodes most (abs ps) a b L) w' := by
  unfold aSend cSend
  by_cases ho : OkW nodes a b
  · obtain ⟨kl, hkl⟩ := key_any (ho.wf h2).1 (ho.wf h2).2
    have hrow := h.row a b kl ho hkl
    have hlen : nw (abs ps) a b = (usOf ps a b).length := (usOf_len ps a b).symm
    rw [if_pos ho, hlen]
    by_cases hf : most ≤ ((usOf ps a b).length : Int)
    · rw [if_pos hf, if_neg (by decide)]
      obtain ⟨oad, cap, rfl⟩ := hs.form
      refine (Send_full h.net hkl ho.a0 ho.a1 ho.b0 ho.b1 ho.ne hrow hf oad _ cap (by rw [by8_len]; omega)).mono ?_
      rintro e w' ⟨rfl, hb⟩
      exact ⟨rfl, PPost.same h hb⟩
    · rw [if_neg hf, if_pos rfl]
      refine (Send_ok h.net hn hkl ho.a0 ho.a1 ho.b0 ho.b1 ho.ne hrow (by omega) hm hs (by rw [by8_len]; omega) (by8_one L)).mono ?_
      intro e w' hp
      exact ⟨hp.1, PPost.of_lay h ho hkl (by omega) hL hp⟩
  · rw [if_neg ho, if_neg (by decide)]
    refine (Send_bad h.net h1 ho sv).mono ?_
    rintro e w' ⟨rfl, hb⟩
    exact ⟨rfl, PPost.same h hb⟩
theorem aTake_no {nodes : Int} {A : List Ab} {a b i : Int} (hc : cName nodes A a b i ≠ 0) : aTake nodes A a b i = A ∧ tTake nodes A a b i = [] := by
  unfold cName at hc; unfold aTake tTake
  by_cases ho : OkW nodes a b
  · rw [if_pos ho] at hc ⊢
    cases hp : posI a b i A with
    | none => simp [ho]
    | some k => rw [hp] at hc; simp at hc
  · simp [ho]
theorem us_one {N B M : Nat} {nodes most : Int} {f : Lit → Option Value} {n : Nat} {ps : List Ml} {w : World} (h : PH N B M nodes most f n ps w) (a b : Int) : ∀ x ∈ usOf ps a b, x.oneCell' = true := fun x hx => by
  obtain ⟨m, hm, rfl⟩ := List.mem_map.1 hx
  exact own_one (h.msg m (List.mem_filter.1 hm).1)
theorem us_at {ps : List Ml} {a b : Int} {i k : Nat} {m : Ml} (hpos : pos (wayM a b) ps i = some k) (hm : ps[k]? = some m) : (usOf ps a b)[i]? = some m.v := by
  obtain ⟨x, hx, _, hxi⟩ := pos_some hpos
  rw [hm] at hx; cases hx
  rw [usOf, List.getElem?_map, hxi]; rfl
theorem row_slice {w : World} {base e size n : Nat} {v : Value} {xs : List Value} (h : w.ownsRow base e size v n xs) : ∃ ou cu, v = .slice ou n cu := by
  rcases ownsRow_forms h with ⟨h, h0⟩ | ⟨g, cp, h⟩
  · exact ⟨none, 0, by rw [h, h0]⟩
  · exact ⟨_, cp, h⟩
theorem pTake_any {N B M : Nat} {nodes most : Int} {f : Lit → Option Value} {n : Nat} {ps : List Ml} {w : World} (h : PH N B M nodes most f n ps w) (hn : n < maxLen) (h1 : 0 < nodes) (h2 : nodes ≤ 65) (hm64 : most ≤ 64) (a b i : Int) :
    Calls Try.prog 20 #[.pointer (some ⟨B, 0, none⟩), .int .i64 a, .int .i64 b, .int .i64 i] w fun e w' => ∃ ov lv cv, e = .returned (.tuple #[.slice ov lv cv, .int .i64 (cName nodes (abs ps) a b i)]) ∧ (Value.slice ov lv cv = .slice none 0 0 ∨ ∃ m ∈ ps, m.v = .slice ov lv cv) ∧ w'.ownsRow N 5 1 (.slice ov lv cv) (by8 (tTake nodes (abs ps) a b i)).length (by8 (tTake nodes (abs ps) a b i)) ∧ PPost N B M nodes most f n ps w (aTake nodes (abs ps) a b i) w' := by
  by_cases hc : cName nodes (abs ps) a b i = 0
  · obtain ⟨ho, h0i, k, m, hpos, hm, hmf, hmt, hpi, hpz, htt⟩ := named_zero hc
    obtain ⟨kl, hkl⟩ := key_any (ho.wf h2).1 (ho.wf h2).2
    have hrow := h.row a b kl ho hkl
    have hmsg := h.msg m (List.mem_of_getElem? hm)
    obtain ⟨j, rfl⟩ : ∃ j : Nat, i = j := ⟨i.toNat, by omega⟩
    rw [Int.toNat_natCast] at hpos
    obtain ⟨ov, cv, hv⟩ := row_slice hmsg
    have hat := us_at hpos hm
    rw [hv] at hat
    have hfull := h.full a b
    refine (Take_ok h.net hn hkl ho.a0 ho.a1 ho.b0 ho.b1 ho.ne hrow (by omega) (us_one h a b) hat).mono ?_
    intro e w' hp
    obtain ⟨f', n', hn', hph, hch⟩ := h.take ho hkl hpos hp
    refine ⟨ov, _, cv, by rw [hc]; exact hp.1, .inr ⟨m, List.mem_of_getElem? hm, hv⟩, ?_, f', n', _, ?_, hn', hph, hch.wide (fun _ _ s => .inl s), fun m' hm' => .inl ⟨m', mem_erase_of hm', rfl⟩⟩
    · rw [htt, ← hv]
      exact msg_keeps hmsg (take_keeps h.net hch)
    · unfold aTake; rw [if_pos ho, hpi]; exact abs_erase ps k
  · refine (Take_bad h h1 h2 rfl hc).mono ?_
    rintro e w' ⟨rfl, hb⟩
    rw [(aTake_no hc).1, (aTake_no hc).2]
    exact ⟨none, 0, 0, rfl, .inl rfl, World.ownsRow_nil _ _ _ _, PPost.same h hb⟩
set_option maxHeartbeats 1000000 in
theorem pDrop_any {N B M : Nat} {nodes most : Int} {f : Lit → Option Value} {n : Nat} {ps : List Ml} {w : World} (h : PH N B M nodes most f n ps w) (hn : n < maxLen) (h1 : 0 < nodes) (h2 : nodes ≤ 65) (hm64 : most ≤ 64) (a b i : Int) :
    Calls Try.prog 45 #[.pointer (some ⟨B, 0, none⟩), .int .i64 a, .int .i64 b, .int .i64 i] w fun e w' => e = .returned (.int .i64 (cName nodes (abs ps) a b i)) ∧ PPost N B M nodes most f n ps w (aTake nodes (abs ps) a b i) w' := by
  have HT := Lib.hid (pTake_any h hn h1 h2 hm64 a b i)
  obtain ⟨c, hc⟩ : ∃ c, c = cName nodes (abs ps) a b i := ⟨_, rfl⟩
  rw [← hc] at HT ⊢
  clear h hc hn h1 h2 hm64
  go_enter Try.func45, Try.ntmps45
  go_wp2_with fail
  refine HT.out.mono ?_
  rintro e w1 ⟨ov, lv, cv, rfl, -, -, hp⟩
  have HP := Lib.hid hp
  clear hp
  go_wp2_with fail
  go_ret
  exact ⟨rfl, HP.out⟩
set_option maxHeartbeats 4000000 in
theorem Double_full {N B M : Nat} {nodes most : Int} {f : Lit → Option Value} {n : Nat} {w : World} (h : Net N B M nodes most f n w) {a b : Int} {kl : Lit} (hkey : keyOf Try.prog 92 (wv a b) = some kl)
    (ho : OkW nodes a b) {us : List Value}
    (hrow : w.ownsRow N 34 1 ((f kl).getD (.slice none 0 0)) us.length us) (hfull : most ≤ (us.length : Int)) {i : Nat} {ou : Option Addr} {lu cu : Nat} (hi : us[i]? = some (.slice ou lu cu)) :
    Calls Try.prog 29 #[.pointer (some ⟨B, 0, none⟩), .int .i64 a, .int .i64 b, .int .i64 i] w fun e w' => e = .returned (.int .i64 170) ∧ Below w.heap.size w w' := by
  have hilt : i < us.length := (List.getElem?_eq_some_iff.1 hi).1
  have H := Lib.hid h; have HR := Lib.hid hrow; have HO := Lib.hid ho; have HI := Lib.hid hilt; have HU := Lib.hid hi; have HL := Lib.hid hfull
  clear h hrow ho hilt hi hfull
  go_enter Try.func29, Try.ntmps29
  go_wp2_with fail
  have A0 := (Below.refl _ w).alloc (Nat.le_refl _) (Obj.cells #[.int .i64 a, .int .i64 b] 92)
  refine (named_ok (H.out.below A0) hkey HO.out.a0 HO.out.a1 HO.out.b0 HO.out.b1 HO.out.ne (row_below HR.out A0) (i := (i : Int)) (by omega) (by have := HI.out; omega)).mono ?_
  rintro e w1 ⟨rfl, hb⟩
  have hw := Below.step hb
  have n1 := H.out.below hw
  have hT := Below.newObj hb
  obtain ⟨kc0, kc1⟩ := keycell hT
  have hl := rows_look (w := w1.drew) n1.drew.map hkey
  have row1 := row_below HR.out hw
  obtain ⟨v, hv⟩ : ∃ v, v = (f kl).getD (.slice none 0 0) := ⟨_, rfl⟩
  have HV := Lib.hid hv
  have row1' := row1
  rw [← hv] at hl row1
  unfold wv at hl
  obtain ⟨m, hm'⟩ : ∃ m, m = us.length := ⟨_, rfl⟩
  have hilt := HI.out
  rw [← hm'] at row1 hilt
  obtain ⟨g, cap, rfl⟩ : ∃ g cap, v = .slice (some ⟨g, 0, none⟩) m cap := by
    rcases ownsRow_forms row1 with ⟨h, h0⟩ | ⟨g, cp, h⟩
    · omega
    · exact ⟨g, cp, h⟩
  have cg : w1.cell? ⟨g, i, none⟩ = some (.slice ou lu cu) := by rw [row1.cellAt i (by omega)]; exact HU.out
  have c2 := n1.c2
  have hcall := lay_full n1.drew hkey row1'.drew HL.out (.slice ou lu cu)
  have HC := Lib.hid hcall
  have HW := Lib.hid hw
  have db : decide ((i : Int) < 0) = false := decide_eq_false (by omega)
  have db2 : decide ((i : Int) < (m : Int)) = true := decide_eq_true (by omega)
  clear hv hb hw n1 hcall row1 row1' hm' hT
  go_wp2_with fail
  go_region_with (go_at_call 49; refine HC.out.mono ?_; rintro e w2 ⟨rfl, hq⟩; have HP := Lib.hid hq; clear hq)
  all_goals
    go_wp2_with fail
    go_ret
    exact ⟨rfl, HW.out.drew.trans (HP.out.mono HW.out.size)⟩
theorem pDouble_any {N B M : Nat} {nodes most : Int} {f : Lit → Option Value} {n : Nat} {ps : List Ml} {w : World} (h : PH N B M nodes most f n ps w) (hn : n < maxLen) (h1 : 0 < nodes) (h2 : nodes ≤ 65) (hm64 : most ≤ 64) (a b i : Int) :
    Calls Try.prog 29 #[.pointer (some ⟨B, 0, none⟩), .int .i64 a, .int .i64 b, .int .i64 i] w fun e w' => e = .returned (.int .i64 (cDbl nodes most (abs ps) a b i)) ∧ PPost N B M nodes most f n ps w (aDbl nodes most (abs ps) a b i) w' := by
  unfold cDbl aDbl
  by_cases hc : cName nodes (abs ps) a b i = 0
  · rw [if_pos hc, if_pos hc]
    obtain ⟨ho, h0i, k, m, hpos, hm, hmf, hmt, hpi, hpz, htt⟩ := named_zero hc
    obtain ⟨kl, hkl⟩ := key_any (ho.wf h2).1 (ho.wf h2).2
    have hrow := h.row a b kl ho hkl
    have hmsg := h.msg m (List.mem_of_getElem? hm)
    have hL := h.len m (List.mem_of_getElem? hm)
    obtain ⟨j, rfl⟩ : ∃ j : Nat, i = j := ⟨i.toNat, by omega⟩
    rw [Int.toNat_natCast] at hpos
    have hsrc := Src.of_own hmsg
    obtain ⟨ov, cv, hv⟩ := row_slice hmsg
    have hat := us_at hpos hm
    rw [hv] at hat hsrc
    rw [htt]
    unfold aSend cSend
    have hlen : nw (abs ps) a b = (usOf ps a b).length := (usOf_len ps a b).symm
    rw [if_pos ho, hlen]
    by_cases hf : most ≤ ((usOf ps a b).length : Int)
    · rw [if_pos hf, if_neg (by decide)]
      refine (Double_full h.net hkl ho hrow hf hat).mono ?_
      rintro e w' ⟨rfl, hb⟩
      exact ⟨rfl, PPost.same h hb⟩
    · rw [if_neg hf, if_pos rfl]
      refine (Double_ok h.net hn hkl ho.a0 ho.a1 ho.b0 ho.b1 ho.ne hrow (by omega) hm64 hat hsrc (by rw [by8_len]; omega) (by8_one _)).mono ?_
      intro e w' hp
      exact ⟨hp.1, PPost.of_lay h ho hkl (by omega) hL hp⟩
  · rw [if_neg hc, if_neg hc]
    refine (Double_bad h h1 h2 rfl hc).mono ?_
    rintro e w' ⟨rfl, hb⟩
    exact ⟨rfl, PPost.same h hb⟩
set_option maxHeartbeats 4000000 in
theorem Flip_arg {N B M : Nat} {nodes most : Int} {f : Lit → Option Value} {n : Nat} {w : World} (h : Net N B M nodes most f n w) {a b : Int} {kl : Lit} (hkey : keyOf Try.prog 92 (wv a b) = some kl)
    (ho : OkW nodes a b) {us : List Value}
    (hrow : w.ownsRow N 34 1 ((f kl).getD (.slice none 0 0)) us.length us) {i : Nat} {ou : Option Addr} {lu cu : Nat} (hi : us[i]? = some (.slice ou lu cu)) {bit : Int} (hbit : bit < 0 ∨ 8 * (lu : Int) ≤ bit) (hL : lu ≤ 300) :
    Calls Try.prog 30 #[.pointer (some ⟨B, 0, none⟩), .int .i64 a, .int .i64 b, .int .i64 i, .int .i64 bit] w fun e w' => e = .returned (.int .i64 2) ∧ Below w.heap.size w w' := by
  have hilt : i < us.length := (List.getElem?_eq_some_iff.1 hi).1
  have H := Lib.hid h; have HR := Lib.hid hrow; have HO := Lib.hid ho; have HI := Lib.hid hilt; have HU := Lib.hid hi; have HBIT := Lib.hid hbit
  clear h hrow ho hilt hi hbit
  go_enter Try.func30, Try.ntmps30
  go_wp2_with fail
  have A0 := (Below.refl _ w).alloc (Nat.le_refl _) (Obj.cells #[.int .i64 a, .int .i64 b] 92)
  refine (named_ok (H.out.below A0) hkey HO.out.a0 HO.out.a1 HO.out.b0 HO.out.b1 HO.out.ne (row_below HR.out A0) (i := (i : Int)) (by omega) (by have := HI.out; omega)).mono ?_
  rintro e w1 ⟨rfl, hb⟩
  have hw := Below.step hb
  have n1 := H.out.below hw
  have hT := Below.newObj hb
  obtain ⟨kc0, kc1⟩ := keycell hT
  have hl := rows_look (w := w1.drew) n1.drew.map hkey
  have row1 := row_below HR.out hw
  obtain ⟨v, hv⟩ : ∃ v, v = (f kl).getD (.slice none 0 0) := ⟨_, rfl⟩
  have HV := Lib.hid hv
  rw [← hv] at hl row1
  unfold wv at hl
  obtain ⟨m, hm'⟩ : ∃ m, m = us.length := ⟨_, rfl⟩
  have hilt := HI.out
  rw [← hm'] at row1 hilt
  obtain ⟨g, cap, rfl⟩ : ∃ g cap, v = .slice (some ⟨g, 0, none⟩) m cap := by
    rcases ownsRow_forms row1 with ⟨h, h0⟩ | ⟨g, cp, h⟩
    · omega
    · exact ⟨g, cp, h⟩
  have cg : w1.cell? ⟨g, i, none⟩ = some (.slice ou lu cu) := by rw [row1.cellAt i (by omega)]; exact HU.out
  have c2 := n1.c2
  have HW := Lib.hid hw
  have db : decide ((i : Int) < 0) = false := decide_eq_false (by omega)
  have db2 : decide ((i : Int) < (m : Int)) = true := decide_eq_true (by omega)
  have ew : IntKind.i64.wrap (8 * (lu : Int)) = 8 * (lu : Int) := by rw [IntKind.wrap_i64]; omega
  clear hv hb hw n1 row1 hm' hT
  go_wp2_with fail
  go_region_held (fun W => W.cell? ⟨B, 2, none⟩ = some (.map (some M)) ∧ W.cell? ⟨w.heap.size, 0, none⟩ = some (.int .i64 a) ∧ W.cell? ⟨w.heap.size, 1, none⟩ = some (.int .i64 b) ∧ W.cell? ⟨g, i, none⟩ = some (.slice ou lu cu)) (exact ⟨c2, kc0, kc1, cg⟩) (fail)
  by_cases hb : bit < 0
  · have e1 : decide (bit < 0) = true := decide_eq_true hb
    go_wp2_with fail
    go_ret
    exact ⟨rfl, HW.out.drew⟩
  · have e1 : decide (bit < 0) = false := decide_eq_false hb
    have e2 : decide (8 * (lu : Int) ≤ bit) = true := decide_eq_true (by have := HBIT.out; omega)
    go_wp2_with fail
    go_ret
    exact ⟨rfl, HW.out.drew⟩
theorem pFlip_any {N B M : Nat} {nodes most : Int} {f : Lit → Option Value} {n : Nat} {ps : List Ml} {w : World} (h : PH N B M nodes most f n ps w) (h1 : 0 < nodes) (h2 : nodes ≤ 65) (a b i bit : Int) :
    Calls Try.prog 30 #[.pointer (some ⟨B, 0, none⟩), .int .i64 a, .int .i64 b, .int .i64 i, .int .i64 bit] w fun e w' => e = .returned (.int .i64 (cFlip nodes (abs ps) a b i bit)) ∧ PPost N B M nodes most f n ps w (aFlip nodes (abs ps) a b i bit) w' := by
  by_cases hc : cName nodes (abs ps) a b i = 0
  · obtain ⟨ho, h0i, k, m, hpos, hm, hmf, hmt, hpi, hpz, htt⟩ := named_zero hc
    obtain ⟨kl, hkl⟩ := key_any (ho.wf h2).1 (ho.wf h2).2
    have hrow := h.row a b kl ho hkl
    have hmem := List.mem_of_getElem? hm
    have hmsg := h.msg m hmem
    have hL := h.len m hmem
    obtain ⟨j, rfl⟩ : ∃ j : Nat, i = j := ⟨i.toNat, by omega⟩
    rw [Int.toNat_natCast] at hpos
    have hat := us_at hpos hm
    by_cases hbit : bitOk (tTake nodes (abs ps) a b j) bit
    · obtain ⟨q, rfl⟩ : ∃ q : Nat, bit = q := ⟨bit.toNat, by have := hbit.1; omega⟩
      have e : cFlip nodes (abs ps) a b j q = 0 := by unfold cFlip; rw [if_pos hc, if_pos hbit]
      have e2 : aFlip nodes (abs ps) a b j q = abs (ps.set k ⟨a, b, flip m.L q, m.v⟩) := by
        unfold aFlip; rw [e, if_pos rfl, hpi, htt, abs_set]; rfl
      rw [e, e2]
      rw [htt] at hbit
      refine (Flip_ok h.net hkl ho.a0 ho.a1 ho.b0 ho.b1 ho.ne hrow hat hmsg (by have := hbit.2; omega) (by omega)).mono ?_
      rintro e' w' ⟨rfl, hr, hch⟩
      refine ⟨rfl, f, n, _, rfl, by omega, h.flip hpos hm (flip_len _ _) hr hch, hch.wide (fun k _ s => .inr (.inr ⟨m, hmem, s.symm⟩)), fun m' hm' => ?_⟩
      rcases mem_set_of hm' with hm' | rfl
      · exact .inl ⟨m', hm', rfl⟩
      · exact .inl ⟨m, hmem, rfl⟩
    · have e : cFlip nodes (abs ps) a b j bit = 2 := by unfold cFlip; rw [if_pos hc, if_neg hbit]
      have e2 : aFlip nodes (abs ps) a b j bit = abs ps := by unfold aFlip; rw [e, if_neg (by decide)]
      rw [e, e2]
      rw [htt] at hbit
      unfold bitOk at hbit
      obtain ⟨ov, cv, hv⟩ := row_slice hmsg
      rw [hv] at hat
      rw [by8_len] at hat
      refine (Flip_arg h.net hkl ho hrow hat (by omega) hL).mono ?_
      rintro e' w' ⟨rfl, hb⟩
      exact ⟨rfl, PPost.same h hb⟩
  · have e : cFlip nodes (abs ps) a b i bit = cName nodes (abs ps) a b i := by unfold cFlip; rw [if_neg hc]
    have e2 : aFlip nodes (abs ps) a b i bit = abs ps := by unfold aFlip; rw [e, if_neg hc]
    rw [e, e2]
    refine (Flip_bad h h1 h2 rfl hc bit).mono ?_
    rintro e' w' ⟨rfl, hb⟩
    exact ⟨rfl, PPost.same h hb⟩
end Go.Proofs.Ytklkhlipecphkaa
