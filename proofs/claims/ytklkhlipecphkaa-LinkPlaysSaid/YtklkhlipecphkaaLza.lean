/- Link: the step that sends. -/
import Derived.Test.YtklkhlipecphkaaLz
namespace Go.Proofs.Ytklkhlipecphkaa
open Go.RowKit Go.Joins Go.Maps
set_option maxRecDepth 100000
set_option linter.unusedVariables false

theorem lit_run {W : World} {sv : Value} {bs : List Value} (hs : Src W sv bs) (hlen : bs.length ≤ 70000) (h1c : ∀ u ∈ bs, u.oneCell' = true) :
    ∃ u W', (Builtin.append_ #[34, 34] 34 #[.slice (some ⟨W.heap.size, 0, none⟩) 0 0, sv]).run Try.prog (W.alloc (.cells #[] 5)) = .ok u W' ∧ W'.ownsRow W.heap.size 5 1 u bs.length bs ∧ Below W.heap.size W W' := by
  obtain ⟨i5, gi, gz0, gz1, gz2⟩ := info_parts info5
  have hb : Below W.heap.size W (W.alloc (.cells #[] 5)) := (Below.refl _ W).alloc (Nat.le_refl _) _
  have own0 : (W.alloc (.cells #[] 5)).ownsRow W.heap.size 5 1 (.slice (some ⟨W.heap.size, 0, none⟩) 0 0) 0 [] :=
    World.ownsRow_lit (base := W.heap.size) (e := 5) (size := 1) W #[] 0 (by omega) (by simp [maxLen]) rfl
  rcases hs.below hb with ⟨ad, cap, rfl, hc⟩ | ⟨rfl, rfl⟩
  · obtain ⟨u', W3, hr1, own1, hg1, -⟩ := run_append_own (W.alloc (.cells #[] 5)) W.heap.size 34 34 5 i5 (.int .u8 0) 1 1 rfl gi gz0 gz1 gz2 rfl (by decide) _ 0 [] own0 ad bs.length cap bs (by omega) hc h1c (by simp only [maxLen]; omega) (by omega) (by rw [World.size_alloc]; omega)
    rw [Nat.zero_add, List.nil_append] at own1
    exact ⟨u', W3, hr1, own1, hb.grown hg1 (by rw [World.size_alloc]; omega) (fun k e => (own0.lt k e).1)⟩
  · exact ⟨_, _, run_append_owned_none (W.alloc (.cells #[] 5)) W.heap.size 34 34 5 i5 1 rfl gi _ 0 [] own0, own0, hb⟩
theorem op_kp {w w' : World} {ts : List Nat} {b : Nat} {o : OpB} (hk : Keeps (notT ts) w w') (ht : 79 ∉ ts) (h : w.heap[b]? = some (opObj o)) : w'.heap[b]? = some (opObj o) := hk.obj ht h
set_option maxHeartbeats 8000000 in
theorem step_send {w0 : World} {N B M C : Nat} {nodes most : Int} {K : Nat} {A : List Ab} {w : World} (h : LX w0 N B M C nodes most K A w) (hK : K ≤ 900) (h1 : 0 < nodes) (h2 : nodes ≤ 65) (hm : most ≤ 64) (o : OpB) (hby : IsBytes w0 o.ob o.lb o.cb o.zs) (hlb : o.lb ≤ 300) (hk : o.k = 1) :
    Calls Try.prog 39 #[.pointer (some ⟨B, 0, none⟩), .pointer (some ⟨C, 0, none⟩), opAgg o] w (StepPost w0 N B M C nodes most K w) := by
  have hb : Below w.heap.size w (w.alloc (opObj o)) := (Below.refl _ _).alloc (Nat.le_refl _) _
  have ho : (w.alloc (opObj o)).heap[w.heap.size]? = some (opObj o) := (MapKept.heap_alloc w (opObj o)).1
  obtain ⟨⟨f, n, va, ps, rs, hls, ea, eb⟩, hl⟩ := h.below hb
  obtain ⟨hr3, hr0⟩ := rs_facts hls.p (eb.trans ea.symm)
  have hrl : rs.length ≤ K := by rw [← eb, abs_len] at hl; exact hl
  have hn : n < maxLen := by have := hls.hn; unfold maxLen; omega
  obtain ⟨W, hW⟩ : ∃ W, W = w.alloc (opObj o) := ⟨_, rfl⟩
  rw [← hW] at hb ho hls
  obtain ⟨L, hL⟩ : ∃ L, L = o.zs.take o.lb := ⟨_, rfl⟩
  have hLl : L.length = o.lb := by rw [hL]; exact bytes_len hby
  have src0 : Src w0 (.slice o.ob o.lb o.cb) (by8 L) := by rw [hL]; exact bytes_src hby
  obtain ⟨u, W2, hr1, own1, b12⟩ := lit_run (src0.below hls.bel) (by rw [by8_len]; omega) (by8_one L)
  have hls2 := hls.below b12
  have HP := pSend_any hls2.p hn h1 h2 hm o.f o.t (Src.of_own own1) (by omega)
  have ho2 := (b12.block _ (Array.getElem?_eq_some_iff.1 ho).1).trans ho
  have HP2 : Calls Try.prog 18 #[.pointer (some ⟨B, 0, none⟩), .int .i64 o.f, .int .i64 o.t, u] W2 fun e w' => e = .returned (.int .i64 (cSend nodes most A o.f o.t)) ∧ ∃ f' n' ps', abs ps' = aSend nodes most A o.f o.t L ∧ LS w0 N B M C nodes most (K + 1) f' n' va ps' rs w' ∧ Keeps (notT [34, 5]) W2 w' ∧ w'.ownsRow W.heap.size 5 1 u (by8 L).length (by8 L) ∧ (∀ k, u.ownBlock = some k → (∀ m ∈ ps', m.v.ownBlock ≠ some k) ∧ ∀ m ∈ rs, m.v.ownBlock ≠ some k) := HP.mono (fun e w' hh => by
    obtain ⟨rfl, hpp⟩ := hh
    obtain ⟨f', n', ps', ea', hls1, hk1, hch, hfr⟩ := hls2.pstep hpp
    have hub : ∀ k, u.ownBlock = some k → W.heap.size ≤ k ∧ k < W2.heap.size := own1.lt
    have hpo : ∀ m ∈ ps, ∀ k, m.v.ownBlock = some k → k < W.heap.size := fun m hm k e => ((hls.p.msg m hm).lt k e).2
    refine ⟨by rw [ea], f', n', ps', by rw [ea', ea], hls1, hk1, row_chg own1 hch (fun k e s => ?_), fun k e => ⟨fun m hm e2 => ?_, fun m hm e2 => ?_⟩⟩
    · have hu := hub k e
      rcases s with rfl | ⟨kl, e3⟩ | ⟨m, hm, e3⟩
      · have := rows_lt hls.p.net.map
        omega
      · obtain ⟨c3, hc3⟩ := (blk_type hls.p e3).2
        have := (Array.getElem?_eq_some_iff.1 hc3).1
        omega
      · have := hpo m hm k e3
        omega
    · have hu := hub k e
      rcases hfr m hm with ⟨m0, hm0, e4⟩ | hf
      · have := hpo m0 hm0 k (by rw [e4]; exact e2)
        omega
      · have := hf k e2
        omega
    · have hu := hub k e
      have := ((hls.r.msg m hm).lt k e2).2
      omega)
  have HQ : Hid (∀ f n ps W2, LS w0 N B M C nodes most (K + 1) f n va ps rs W2 → Calls Try.prog 54 #[.pointer (some ⟨C, 0, none⟩), .int .i64 o.f, .int .i64 o.t, .slice o.ob o.lb o.cb] W2 (SPost N C nodes most va rs W2 (cSend nodes most A o.f o.t) (aSend nodes most A o.f o.t L))) := Lib.hid (fun f n ps W2 hls2 => by
    have := rSend_any hls2.r o.f o.t (by omega) (src0.below hls2.bel) (L := L) (by omega)
    rw [eb] at this; exact this)
  have HP2 := Lib.hid HP2
  have hwN : w0.heap.size ≤ W.heap.size := hls.bel.size
  rw [by8_len, hLl] at own1
  obtain ⟨ou, cu, hu⟩ := row_slice own1
  have hlc : o.lb ≤ maxLen := hby.le
  unfold maxLen at hlc
  obtain ⟨b1, b2, b3, b4, b5⟩ := opcells ho
  have b0 := opc0 ho
  obtain ⟨c1, c2, c3, c4, c5⟩ := opcells ho2
  have HB := Lib.hid (hb.trans (b12.mono hb.size)); have HO2 := Lib.hid ho2; have HW := Lib.hid hW; have HLL := Lib.hid hLl; have HWN := Lib.hid hwN
  have b5' : (W.alloc (.cells #[] 5)).cell? ⟨w.heap.size, 5, none⟩ = some (.slice o.ob o.lb o.cb) := (((Below.refl _ W).alloc (Nat.le_refl _) (Obj.cells #[] 5)).cell (lt_of_cell b5)).trans b5
  obtain ⟨k, ff, t, i, b, ob, lb, cb, zs⟩ := o
  dsimp only at hk b0 b1 b2 b3 b4 b5 c1 c2 c3 c4 c5 hlc hlb b5' hr1 HP2 HQ HLL hu
  have e1 : (k == 1) = true := by simp [hk]
  have f1 : decide (k = 1) = true := by simp [hk]
  unfold opAgg
  unfold opObj at HW
  dsimp only at HW ⊢
  clear h hb ho ho2 hls hls2 ea eb hr3 hr0 hk hW hn hby src0 hL b12 HP own1 hwN hLl
  obtain ⟨cc, hcc⟩ : ∃ cc, cc = cSend nodes most A ff t := ⟨_, rfl⟩
  rw [← hcc] at HP2 HQ
  clear hcc
  subst hu
  rw [HW.out, World.size_alloc] at hr1
  clear b0 b1 b2 b3 b4 b5 b5'
  go_enter Try.func39, Try.ntmps39
  go_wp2_with (at_builtin; refine wpList_append_run rfl rfl (s := .tmp 23) (x := .tmp 25) (t := 34) rfl rfl hr1 ?_)
  refine HP2.out.mono ?_
  rintro e w1 ⟨rfl, f1, n1, ps1, ea1, hls1, hk1, hown, hap⟩
  obtain ⟨d1, d2, d3, d4, d5⟩ := opcells (op_kp hk1 (by decide) HO2.out)
  have HLS1 := Lib.hid hls1; have HK1 := Lib.hid hk1; have HEA1 := Lib.hid ea1; have HOWN := Lib.hid hown; have HAP := Lib.hid hap
  have HOB := Lib.hid (op_kp hk1 (by decide) HO2.out)
  clear hls1 hk1 ea1 hown hap c1 c2 c3 c4 c5 d1 d2 d3 d4 d5 HP2
  go_wp2_with fail
  go_loopw [9, 36] (fun _ i wr => ∃ (k : Nat) (Y : List Int), k ≤ lb ∧ i = .int .i64 (k : Int) ∧ Y.length = lb ∧ wr.ownsRow W.heap.size 5 1 (.slice ou lb cu) lb (by8 Y) ∧ Chg (fun k => (Value.slice ou lb cu).ownBlock = some k) w1 wr) (fun _ i _ => lb - (intOf i).toNat)
  case atStart => exact ⟨0, L, Nat.zero_le _, rfl, HLL.out, by have := HOWN.out; rw [by8_len, HLL.out] at this; exact this, chg_refl _ _⟩
  case round =>
    obtain ⟨k, Y, hk, rfl, hY, hown, hch⟩ := hrel
    by_cases hlt : k < lb
    · have hf := ownsRow_forms hown
      obtain ⟨q, rfl⟩ : ∃ q, ou = some ⟨q, 0, none⟩ := by
        rcases hf with ⟨_, h0⟩ | ⟨g, cp, e⟩
        · omega
        · cases e; exact ⟨g, rfl⟩
      have cx : wr.cell? ⟨q, k, none⟩ = some (.int .u8 (nth Y k)) := by
        rw [hown.cellAt k (by omega)]
        have : k < Y.length := by omega
        simp [by8, nth, List.getD_eq_getElem?_getD, this]
      have fx : wr.frozen? ⟨q, k, none⟩ = false := hown.frozenAt k
      obtain ⟨x, hx⟩ : ∃ x, x = nth Y k := ⟨_, rfl⟩
      rw [← hx] at cx
      have HOW := Lib.hid hown; have HCH := Lib.hid hch; have HYL := Lib.hid hY
      clear hown hch hf hx hY
      have dd : decide ((k : Int) < (lb : Int)) = true := decide_eq_true (by omega)
      go_wp2_with fail
      go_roundw
      case rel =>
        refine ⟨k + 1, Y.set k (bits BinOp.xor .u8 x 255), by omega, by go_num, by rw [List.length_set]; exact HYL.out, ?_, HCH.out.trans (Chg.of_grown (HOW.out.stored k (.int .u8 (bits BinOp.xor .u8 x 255))).2 (fun j _ e => e)) (fun _ _ s => s) (fun _ _ s => s.symm ▸ rfl)⟩
        rw [by8_set]
        exact (HOW.out.stored k _).1
      case measure => simp [intOf]; omega
    · have dd : decide ((k : Int) < (lb : Int)) = false := decide_eq_false (by omega)
      have hls3 := HLS1.out.chg hch (fun j o s ho => by
        obtain ⟨c, hc⟩ := row_type HOWN.out s
        rw [hc] at ho; cases ho; exact ⟨_, _, rfl⟩) (fun j s => HAP.out j s) (fun j s => Nat.le_trans HWN.out (HOWN.out.lt j s).1)
      have hkp : Keeps (notT [34, 5]) w1 wr := hch.keeps (fun j o s ho hT => by
        obtain ⟨c, hc⟩ := row_type HOWN.out s
        obtain ⟨c2, t2, fz, e, hn⟩ := hT
        rw [hc] at ho; cases ho; cases e; exact hn (by decide))
      obtain ⟨d1, d2, d3, d4, d5⟩ := opcells (op_kp hkp (by decide) HOB.out)
      have HC := Lib.hid (HQ.out f1 n1 ps1 _ hls3)
      have HLS3 := Lib.hid hls3; have HK3 := Lib.hid (HK1.out.trans hkp)
      clear hown hch hls3 hkp HQ hY
      dsimp only at d1 d2 d3 d4 d5
      go_wp2_with fail
      refine HC.out.mono ?_
      rintro e w2 ⟨rfl, hrp⟩
      obtain ⟨va2, rs2, eb2, hls4, hk4⟩ := HLS3.out.rstep hrp
      have fin : LX w0 N B M C nodes most (K + 1) (aSend nodes most A ff t L) w2 := LX.of hls4 HEA1.out eb2 (by have := aSend_len nodes most A ff t L; omega)
      have HF := Lib.hid fin; have HK4 := Lib.hid (keeps2 HK3.out hk4)
      clear hls4 hk4 eb2 hrp fin HC d1 d2 d3 d4 d5
      go_wp2_with fail
      go_ret
      exact StepPost.of HB.out HF.out HK4.out
end Go.Proofs.Ytklkhlipecphkaa
