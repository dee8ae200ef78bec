/- Link: the law LinkPlays, walked. -/
import Derived.Test.YtklkhlipecphkaaLzb
namespace Go.Proofs.Ytklkhlipecphkaa
open Go.RowKit Go.Joins Go.Maps
set_option maxRecDepth 100000
set_option linter.unusedVariables false

set_option maxHeartbeats 4000000 in
theorem LinkPlays_long (nodes most : Int) (oa : Option Addr) (len cap : Nat) (w : World) (h : 100 < len) : Calls Try.prog 10 #[.int .i64 nodes, .int .i64 most, .slice oa len cap] w fun e w' => e = .returned (.bool true) ∧ Below w.heap.size w w' := by
  go_enter Try.func10, Try.ntmps10
  go_wp2_with fail
  refine (awake16_yes _).mono ?_
  rintro e w1 ⟨rfl, hb1⟩
  have HB1 := Lib.hid hb1
  clear hb1
  go_wp2_with fail
  refine (few_long oa len cap w1 h).mono ?_
  rintro e w2 ⟨rfl, hb2⟩
  have HB2 := Lib.hid (HB1.out.trans (hb2.mono HB1.out.size))
  clear hb2
  go_wp2_with fail
  go_ret
  exact ⟨rfl, HB2.out⟩
set_option maxHeartbeats 4000000 in
theorem LinkPlays_args (nodes most : Int) (oa : Option Addr) (len cap : Nat) (O : Nat → OpB) (w : World) (h : len ≤ 100) (hO : IsOpBs w oa len cap O) (hbad : ¬ (1 ≤ nodes ∧ nodes ≤ 65 ∧ 1 ≤ most ∧ most ≤ 64)) :
    Calls Try.prog 10 #[.int .i64 nodes, .int .i64 most, .slice oa len cap] w fun e w' => e = .returned (.bool true) ∧ Below w.heap.size w w' := by
  have HO := Lib.hid hO; have HBAD := Lib.hid hbad
  clear hO hbad
  go_enter Try.func10, Try.ntmps10
  go_wp2_with fail
  refine (awake16_yes _).mono ?_
  rintro e w1 ⟨rfl, hb1⟩
  have HB1 := Lib.hid hb1
  clear hb1
  go_wp2_with fail
  refine (few_any oa len cap O w1 h (HO.out.below HB1.out)).mono ?_
  rintro e w2 ⟨he, hb2⟩
  have HB2 := Lib.hid (HB1.out.trans (hb2.mono HB1.out.size))
  clear hb2
  rcases he with rfl | ⟨rfl, hsm⟩
  · go_wp2_with fail
    go_ret
    exact ⟨rfl, HB2.out⟩
  clear hsm
  go_wp2_with fail
  refine (lNew_no nodes most w2 HBAD.out).mono ?_
  rintro e w3 ⟨rfl, rfl⟩
  by_cases h1 : nodes < 1
  · have d1 : decide (nodes < 1) = true := decide_eq_true h1
    go_wp2_with fail
    go_ret
    exact ⟨rfl, HB2.out⟩
  have d1 : decide (nodes < 1) = false := decide_eq_false h1
  by_cases h2 : 65 < nodes
  · have d2 : decide (65 < nodes) = true := decide_eq_true h2
    go_wp2_with fail
    go_ret
    exact ⟨rfl, HB2.out⟩
  have d2 : decide (65 < nodes) = false := decide_eq_false h2
  by_cases h3 : most < 1
  · have d3 : decide (most < 1) = true := decide_eq_true h3
    go_wp2_with fail
    go_ret
    exact ⟨rfl, HB2.out⟩
  have d3 : decide (most < 1) = false := decide_eq_false h3
  have d4 : decide (64 < most) = true := decide_eq_true (by have := HBAD.out; omega)
  go_wp2_with fail
  go_ret
  exact ⟨rfl, HB2.out⟩

def mailObj (m : Ml) : Obj := .cells #[.int .i64 m.f, .int .i64 m.t, m.v] 82
def lenAt (w : World) (C : Nat) : Nat := match w.cell? ⟨C, 2, none⟩ with
  | some (.slice _ n _) => n
  | _ => 0
theorem LX.lenAt {w0 : World} {N B M C : Nat} {nodes most : Int} {K : Nat} {A : List Ab} {w : World} (h : LX w0 N B M C nodes most K A w) : Ytklkhlipecphkaa.lenAt w C = A.length := by
  obtain ⟨⟨f, n, va, ps, rs, hls, ea, eb⟩, hln⟩ := h
  obtain ⟨oz, cz, ez, _⟩ := hls.r.slice
  unfold Ytklkhlipecphkaa.lenAt
  rw [hls.r.c2, ez, ← eb, abs_len]
theorem mailcells {W : World} {q : Nat} {m : Ml} (h : W.heap[q]? = some (mailObj m)) : W.cell? ⟨q, 0, none⟩ = some (.int .i64 m.f) ∧ W.cell? ⟨q, 1, none⟩ = some (.int .i64 m.t) ∧ W.cell? ⟨q, 2, none⟩ = some m.v := by
  refine ⟨?_, ?_, ?_⟩ <;> simp [World.cell?, h, mailObj]
theorem mail_kp {w w' : World} {q : Nat} {m : Ml} (hk : Keeps (notT [34, 5]) w w') (h : w.heap[q]? = some (mailObj m)) : w'.heap[q]? = some (mailObj m) := hk.obj (by decide) h
theorem head_named {nodes a b : Int} {L : List Int} {A : List Ab} (ho : OkW nodes a b) : cName nodes ((a, b, L) :: A) a b 0 = 0 ∧ aTake nodes ((a, b, L) :: A) a b 0 = A ∧ tTake nodes ((a, b, L) :: A) a b 0 = L := by
  have hp : posI a b 0 ((a, b, L) :: A) = some 0 := by
    unfold posI
    rw [if_neg (by omega)]
    exact pos_zero A (wayA_iff.2 ⟨rfl, rfl⟩)
  refine ⟨?_, ?_, ?_⟩
  · unfold cName; rw [if_pos ho, hp]; rfl
  · unfold aTake; rw [if_pos ho, hp]; rfl
  · unfold tTake; rw [if_pos ho, hp]; rfl
set_option maxHeartbeats 16000000 in
theorem LinkPlays_main (nodes most : Int) (oa : Option Addr) (len cap : Nat) (O : Nat → OpB) (w : World) (h : len ≤ 100) (hO : IsOpBs w oa len cap O) (hwf : OpsWf len O) (h1 : 1 ≤ nodes) (h2 : nodes ≤ 65) (h3 : 1 ≤ most) (h4 : most ≤ 64) :
    Calls Try.prog 10 #[.int .i64 nodes, .int .i64 most, .slice oa len cap] w fun e w' => e = .returned (.bool true) ∧ Below w.heap.size w w' := by
  have HO := Lib.hid hO; have HWF := Lib.hid hwf
  clear hO hwf
  have d1 : decide (nodes < 1) = false := decide_eq_false (by omega)
  have d2 : decide (65 < nodes) = false := decide_eq_false (by omega)
  have d3 : decide (most < 1) = false := decide_eq_false (by omega)
  have d4 : decide (64 < most) = false := decide_eq_false (by omega)
  go_enter Try.func10, Try.ntmps10
  go_wp2_with fail
  refine (awake16_yes _).mono ?_
  rintro e w1 ⟨rfl, hb1⟩
  have HB1 := Lib.hid hb1
  clear hb1
  go_wp2_with fail
  refine (few_any oa len cap O w1 h (HO.out.below HB1.out)).mono ?_
  rintro e w2 ⟨he, hb2⟩
  have HB2 := Lib.hid (HB1.out.trans (hb2.mono HB1.out.size))
  clear hb2
  rcases he with rfl | ⟨rfl, hsm⟩
  · go_wp2_with fail
    go_ret
    exact ⟨rfl, HB2.out⟩
  have HSM := Lib.hid hsm
  clear hsm
  go_wp2_with fail
  refine (lNew_yes nodes most w2 (by omega) (by omega) (by omega) (by omega)).mono ?_
  rintro e w3 ⟨B, M, rfl, hnet, hb3⟩
  have hlx := lx_start (HB2.out.trans (hb3.mono HB2.out.size)) HB2.out.size hb3.size (by omega) hnet
  obtain ⟨N, hN⟩ : ∃ N, N = w2.heap.size := ⟨_, rfl⟩
  rw [← hN] at hlx
  have HLX := Lib.hid hlx
  clear hnet hb3 hlx hN
  go_wp2_with fail
  obtain ⟨C, hC⟩ : ∃ C, C = w3.heap.size := ⟨_, rfl⟩
  rw [← hC] at HLX ⊢
  clear hC d1 d2 d3 d4
  go_loopw [11, 60] (fun _ i W => ∃ (k : Nat) (A : List Ab), k ≤ len ∧ i = .int .i64 (k : Int) ∧ LX w N B M C nodes most k A W) (fun _ i _ => len - (intOf i).toNat)
  case atStart => exact ⟨0, [], Nat.zero_le _, rfl, HLX.out⟩
  case round =>
    obtain ⟨k, A, hk, rfl, hlx⟩ := hrel
    have HL := Lib.hid hlx
    clear hlx HLX
    by_cases hlt : k < len
    · obtain ⟨x, rfl, hx⟩ := HO.out.2 (by omega)
      have ho := (hx k hlt).below HL.out.bel
      have hby := (hx k hlt).by_
      obtain ⟨wf, wt, wi⟩ := HWF.out k hlt
      have hlb := HSM.out k hlt
      obtain ⟨op, hop⟩ : ∃ op, op = O k := ⟨_, rfl⟩
      rw [← hop] at ho wf wt wi hlb hby
      have hTB := (MapKept.heap_alloc wr (opObj op)).1
      have hBB := (Below.refl _ wr).alloc (Nat.le_refl _) (opObj op)
      have hst := step_any ((HL.out.below hBB).below (Below.refl _ _).drew) (by omega) (by omega) h2 h4 op wf wt wi hby hlb
      have HST := Lib.hid hst; have HTB := Lib.hid hTB; have HWFA := Lib.hid wf; have HWT := Lib.hid wt
      obtain ⟨k0, k1, k2, k3, k4, k5, -, hlc⟩ := ho
      have hop0 := opc0 hTB
      obtain ⟨a1, a2, a3, a4, a5⟩ := opcells hTB
      clear hop hx hBB hby hst hTB wf wt wi
      unfold maxLen at hlc
      have e2 : decide ((k : Int) < (len : Int)) = true := decide_eq_true (by omega)
      unfold opAgg opObj at HST
      unfold opObj at hop0 a1 a2 a3 a4 a5
      go_wp2_with fail
      clear k0 k1 k2 k3 k4 k5
      go_region_held (fun W => W.cell? ⟨wr.heap.size, 0, none⟩ = some (.int .i64 op.k) ∧ W.cell? ⟨wr.heap.size, 1, none⟩ = some (.int .i64 op.f) ∧ W.cell? ⟨wr.heap.size, 2, none⟩ = some (.int .i64 op.t) ∧ W.cell? ⟨wr.heap.size, 3, none⟩ = some (.int .i64 op.i) ∧ W.cell? ⟨wr.heap.size, 4, none⟩ = some (.int .i64 op.b) ∧ W.cell? ⟨wr.heap.size, 5, none⟩ = some (.slice op.ob op.lb op.cb)) (first | exact ⟨hop0, a1, a2, a3, a4, a5⟩ | exact ⟨hop1, x1, x2, x3, x4, x5⟩ | exact ⟨hop2, y1, y2, y3, y4, y5⟩) (first
        | (go_at_call 39; refine HST.out.mono ?_; rintro e w4 ⟨rfl, A4, hlx4, hk4⟩; have hob4 := op_kp hk4 (by decide) HTB.out; have hop1 := opc0 hob4; obtain ⟨x1, x2, x3, x4, x5⟩ := opcells hob4)
        | (go_at_call 19; refine (lxWaits hlx4 (by omega) HWFA.out HWT.out).mono ?_; rintro e wz ⟨rfl, rfl⟩)
        | (go_at_call 40; refine (lxWaitsR hlx4 (by omega) _ _).mono ?_; rintro e wz ⟨rfl, rfl⟩)
        | (go_at_call 41; refine (lxBytes hlx4 (by omega) (by omega) h2).mono ?_; rintro e w5 ⟨rfl, hb5⟩; have hlx5 := hlx4.below hb5; have hob5 := (hb5.block _ (Array.getElem?_eq_some_iff.1 hob4).1).trans hob4; have hop2 := opc0 hob5; obtain ⟨y1, y2, y3, y4, y5⟩ := opcells hob5)
        | (go_at_call 42; refine (lxBytesR hlx5 (by omega)).mono ?_; rintro e wz ⟨rfl, rfl⟩))
      have HF := Lib.hid hlx5
      clear hlx4 hk4 hob4 hop1 x1 x2 x3 x4 x5 hb5 hlx5 hob5 hop2 y1 y2 y3 y4 y5 hop0 a1 a2 a3 a4 a5 HST
      go_wp2_with fail
      go_roundw
      case rel => exact ⟨k + 1, A4, by omega, by go_num, HF.out⟩
      case measure => simp [intOf]; omega
    · have e2 : decide ((k : Int) < (len : Int)) = false := decide_eq_false (by omega)
      have HKL : Hid (k ≤ 100) := Lib.hid (by omega)
      go_wp2_with fail
      go_loopw [12, 13, 14, 15, 16] (fun _ _ _ _ _ W => ∃ (K : Nat) (A : List Ab), K + A.length ≤ 200 ∧ LX w N B M C nodes most K A W) (fun _ _ _ _ _ W => lenAt W C)
      case atStart => exact ⟨k, A, by have := HL.out.len; have := HKL.out; omega, HL.out⟩
      case round =>
        obtain ⟨K, A2, hK, hlx⟩ := hrel
        obtain ⟨⟨f, n, va, ps, rs, hls, ea, eb⟩, hln⟩ := id hlx
        have hla : lenAt wr C = A2.length := by
          obtain ⟨oz, cz, ez, _⟩ := hls.r.slice
          unfold lenAt
          rw [hls.r.c2, ez, ← eb, abs_len]
        have c2 := hls.r.c2
        have HLX2 := Lib.hid hlx; have HLA := Lib.hid hla
        by_cases h0 : A2 = []
        · have hrs : rs = [] := by
            have : (abs rs).length = 0 := by rw [eb, h0]; rfl
            rw [abs_len] at this
            exact List.eq_nil_of_length_eq_zero this
          obtain ⟨oz, cz, ez, _⟩ := hls.r.slice
          rw [hrs] at ez
          rw [ez] at c2
          have hbz := lxBytes hlx (by omega) (by omega) h2
          have hz : sumA A2 = 0 := by rw [h0]; rfl
          rw [hz] at hbz
          have HBZ := Lib.hid hbz
          clear hrs ez hbz hz hls hlx hla ea eb hln h0 hlt
          go_wp2_with fail
          refine HBZ.out.mono ?_
          rintro e w9 ⟨rfl, hb9⟩
          have HB9 := Lib.hid hb9
          clear hb9
          go_wp2_with fail
          go_ret
          exact ⟨rfl, HLX2.out.bel.trans (HB9.out.mono HLX2.out.bel.size)⟩
        · obtain ⟨⟨a, b, L⟩, A3, rfl⟩ := List.exists_cons_of_ne_nil h0
          obtain ⟨m, rs3, rfl⟩ : ∃ m rs3, rs = m :: rs3 := by
            cases rs with
            | nil => simp [abs] at eb
            | cons m rs3 => exact ⟨m, rs3, rfl⟩
          have em : m.f = a ∧ m.t = b ∧ m.L = L := by
            simp [abs, Ml.ab] at eb
            exact eb.1
          obtain ⟨p, ps3, rfl⟩ : ∃ m rs3, ps = m :: rs3 := by
            cases ps with
            | nil => simp [abs] at ea
            | cons m rs3 => exact ⟨m, rs3, rfl⟩
          have ep : p.f = a ∧ p.t = b := by
            simp [abs, Ml.ab] at ea
            exact ⟨ea.1.1, ea.1.2.1⟩
          have how := hls.p.ok p (List.mem_cons_self ..)
          rw [ep.1, ep.2] at how
          obtain ⟨n1, n2, n3⟩ := head_named (L := L) (A := A3) how
          obtain ⟨oz, cz, ez, hcz⟩ := hls.r.slice
          obtain ⟨g, rfl, y0, y1, y2⟩ := hcz 0 m rfl
          rw [Nat.zero_mul] at y0
          rw [Nat.zero_mul, Nat.zero_add] at y1 y2
          rw [em.1] at y0
          rw [em.2.1] at y1
          rw [ez] at c2
          have hvm := hls.r.msg m (List.mem_cons_self ..)
          obtain ⟨ov, cv, hv⟩ := row_slice hvm
          rw [hv] at y2
          obtain ⟨lv, hlv⟩ : ∃ lv, lv = (by8 m.L).length := ⟨_, rfl⟩
          rw [← hlv] at y2 hv
          obtain ⟨nr, hnr⟩ : ∃ nr, nr = (m :: rs3).length := ⟨_, rfl⟩
          rw [← hnr] at c2
          have hnr1 : 0 < nr := by rw [hnr]; simp
          have hb1 := (Below.refl _ wr).alloc (Nat.le_refl _) (mailObj ⟨a, b, L, .slice ov lv cv⟩)
          have hbox := (MapKept.heap_alloc wr (mailObj ⟨a, b, L, .slice ov lv cv⟩)).1
          have hls1 := hls.below hb1
          have HP := pTake_any hls1.p (by have := hls1.hn; unfold maxLen; simp at hK; omega) (by omega) h2 h4 a b 0
          rw [ea, n1, n2, n3] at HP
          have hrl : (m :: rs3).length ≤ 1000 := by rw [← abs_len, eb]; simp at hK ⊢; omega
          have HP := Lib.hid HP; have HLS1 := Lib.hid hls1; have HBOX := Lib.hid hbox; have HOW := Lib.hid how; have HEB := Lib.hid eb; have HN1 := Lib.hid n1; have HN2 := Lib.hid n2; have HN3 := Lib.hid n3; have HRL := Lib.hid hrl
          have d1 : decide (0 < (nr : Int)) = true := decide_eq_true (by omega)
          clear hla hls hlx ea eb em ep how n1 n2 n3 ez hcz hvm hv hlv hnr hb1 hbox hls1 hrl h0 hlt
          go_wp2_with fail
          refine HP.out.mono ?_
          rintro e w4 ⟨pv, lp, cp, rfl, -, hrow, hpp⟩
          obtain ⟨f4, n4, ps4, ea4, hls4, hk4, -, -⟩ := HLS1.out.pstep hpp
          have HLS4 := Lib.hid hls4; have HEA4 := Lib.hid ea4; have HROW := Lib.hid hrow
          obtain ⟨z0, z1, z2⟩ := mailcells (mail_kp hk4 HBOX.out)
          dsimp only at z0 z1 z2
          have HQ := rTake_any hls4.r a b (i := 0) (wf_small (by omega) (by omega)) HRL.out
          have HQ := Lib.hid HQ
          clear hrow hpp ea4 hls4 hk4 HP y0 y1 y2 c2
          go_wp2_with fail
          refine HQ.out.mono ?_
          rintro e w5 ⟨v5, rfl, hv5, hrd, hrp⟩
          obtain ⟨va5, rs5, eb5, hls5, hk5⟩ := HLS4.out.rstep hrp
          have hrow5 := msg_keeps HROW.out (hk5.weak (fun o ⟨c, fz, e⟩ => ⟨c, 5, fz, e, by decide⟩))
          rw [HEB.out, HN3.out] at hrd
          have hS := Same_any (.slice pv lp cp) v5 _ _ w5 (Reads.of_owns hrow5) hrd
          have htl : L.length ≤ maxLen := by
            rcases hrow5.2 with ⟨e, h0⟩ | ⟨g', cap', cur, e, _, _, hle, hcm, _⟩
            · rw [by8_len] at h0; omega
            · rw [by8_len] at hle; omega
          have hform : ∃ a b c, v5 = .slice a b c := by
            obtain ⟨oa, cap, e, _⟩ := hrd
            exact ⟨_, _, _, e⟩
          have fin : LX w N B M C nodes most (K + 1) A3 w5 := LX.of hls5 HEA4.out (by rw [eb5, HEB.out, HN2.out]) (by have := HLX2.out.len; simp at this; omega)
          have HF := Lib.hid fin; have HS := Lib.hid hS; have HTL := Lib.hid htl
          rw [HEB.out, HN1.out]
          clear hls5 hk5 eb5 hrow5 hrd htl hv5 hrp fin HQ z0 z1 z2 hS
          obtain ⟨ov5, lv5, cv5, rfl⟩ := hform
          go_wp2_with fail
          refine (HS.out HTL.out HTL.out).mono ?_
          rintro e w6 ⟨rfl, hb6⟩
          have hdec : decide (L = L) = true := decide_eq_true rfl
          have HF6 := Lib.hid (HF.out.below hb6)
          clear hb6
          go_wp2_with fail
          go_roundw
          case rel => exact ⟨K + 1, A3, by simp at hK; omega, HF6.out⟩
          case measure => rw [HF6.out.lenAt, HLX2.out.lenAt]; simp
end Go.Proofs.Ytklkhlipecphkaa
