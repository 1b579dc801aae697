/- Proved here: laws.FnExactDrill answers true, for every chart and every number that can be read; it writes to no memory that was there. -/
import Derived.Test.YtolcdkanebopiaaRK3
import Derived.Outline
namespace Go.Proofs.Ytolcdkanebopiaa.Tree
open Go.RowKit Go.Proofs.YtolcdkanebopiaaW.PrintWords Go.Proofs.YtolcdkanebopiaaW.PrintLast Go.Proofs.YtolcdkanebopiaaW.PrintMore Go.Proofs.Ytolcdkanebopiaa.PFnExactDomain
set_option linter.unusedVariables false
set_option linter.unusedSimpArgs false
theorem toChart_own {w : World} {A0 A1 : Option Addr} {c0 c1 : Nat} {L0 : List S66} {L1 : List S70} {S : List S76} {T : List S80} (hr0 : Kd.C k66 w A0 L0.length L0) (hc0 : L0.length ≤ c0) (hr1 : Kd.C k70 w A1 L1.length L1) (hc1 : L1.length ≤ c1) {k : Nat} (hk : laws_toChart.f k L0 L1 = some (S, T)) (hS : Short S ∧ ∀ x ∈ S, ShS96 x.f2 ∧ ShS96 x.f3) (hT : Short T ∧ ∀ x ∈ T, Short x.f2 ∧ ShS96 x.f4) :
    Calls Try.prog 8 #[.agg #[.slice A0 L0.length c0, .slice A1 L1.length c1]] w fun e w' => ∃ B0 d0 B1 d1, e = .returned (.agg #[.slice B0 S.length d0, .slice B1 T.length d1]) ∧ S.length ≤ d0 ∧ T.length ≤ d1 ∧ Kd.C k76 w' B0 S.length S ∧ Kd.C k80 w' B1 T.length T ∧ Below w.heap.size w w' ∧ Ok (stateE w.heap.size w'.heap.size) w.heap.size w'.heap.size w' B0 S.length ∧ Ok (transE w.heap.size w'.heap.size) w.heap.size w'.heap.size w' B1 T.length := by
  refine (laws_toChart.calls k A0 c0 L0 A1 c1 L1 S T w hr0 hc0 hr1 hc1 hk).mono ?_
  rintro e w' ⟨v0, v1, rfl, h0, h1, hb⟩
  obtain ⟨B0, d0, rfl⟩ := Kd.R_slice h0
  obtain ⟨B1, d1, rfl⟩ := Kd.R_slice h1
  exact ⟨B0, d0, B1, d1, rfl, (Kd.R_reads' h0).2.1, (Kd.R_reads' h1).2.1, (Kd.R_reads' h0).2.2, (Kd.R_reads' h1).2.2, hb, okState_of h0 hS (Nat.le_refl _) (Nat.le_refl _), okTrans_of h1 hT (Nat.le_refl _) (Nat.le_refl _)⟩
set_option maxHeartbeats 4000000 in
set_option maxRecDepth 100000 in
theorem drill_law {w : World} {A0 A1 : Option Addr} {c0 c1 : Nat} {L0 : List S66} {L1 : List S70} (hr0 : Kd.C k66 w A0 L0.length L0) (hc0 : L0.length ≤ c0) (hr1 : Kd.C k70 w A1 L1.length L1) (hc1 : L1.length ≤ c1) (a : Int) :
    Calls Try.prog 5 #[.agg #[.slice A0 L0.length c0, .slice A1 L1.length c1], .int .i64 a] w fun e w' => e = .returned (.bool true) ∧ Below w.heap.size w w' := by
  have hu25 := Try.underlying25
  have hu31 := Try.underlying31
  obtain ⟨r, er, hr⟩ := szChart_ev (fit_chart hr0 hr1)
  obtain ⟨k0, hk0⟩ := er.rounds
  have HK0 := Aside0.mk hk0
  have HR0 := Aside0.mk hr0
  have HR1 := Aside0.mk hr1
  have HB := Aside0.mk (Below.refl w.heap.size w)
  clear hk0 er hr0 hr1
  rcases hr with hr | ⟨hr, hsh⟩
  · go_enter Try.func5, Try.ntmps5
    go_wp2_with (first
      | ((with_reducible refine gate_dst (N := 2) rfl ?_); refine box_event ?hg (N := 2) ?hd (cs := #[.slice A0 L0.length c0, .slice A1 L1.length c1]) (t := 25) ?hr ?_; (case hd => rfl); (case hg => rfl); (case hr => first | (go_simp; done) | (go_simp; rfl)); intro gc hgc w1 hbc hb_; have HBC := Aside0.mk hbc; have hcc0 := (blkc HBC.out 0).trans rfl; have hcc1 := (blkc HBC.out 1).trans rfl; have n_ := Aside0.mk (HB.out.trans hb_); clear HB; have HB := n_; clear n_ hbc hgc hb_)
      | (go_at_call 6; refine (laws_szChart.calls k0 A0 c0 L0 A1 c1 L1 1048576 r _ (Kd.C_below HR0.out HB.out) hc0 (Kd.C_below HR1.out HB.out) hc1 HK0.out).mono ?_; rintro e w2 ⟨rfl, hb2⟩; have n_ := Aside0.mk (HB.out.trans (hb2.mono HB.out.size)); clear HB; have HB := n_; clear n_; have n_ := Aside0.mk ((hb2.block _ (blk_lt HBC.out)).trans HBC.out); clear HBC; have HBC := n_; clear n_ hb2 hcc0 hcc1; have hcc0 := (blkc HBC.out 0).trans rfl; have hcc1 := (blkc HBC.out 1).trans rfl))
    go_ret
    exact ⟨rfl, HB.out⟩
  · have HSS := Aside0.mk (short_states hsh.a hsh.b)
    have HTT := Aside0.mk (short_trans hsh.c hsh.d)
    obtain ⟨k1, hk1⟩ := (toChart_ev hsh).rounds
    obtain ⟨k2, hk2⟩ := (eqChart_ev hsh).rounds
    have hsm : Short (L0.map stateF) := short_map hsh.a
    obtain ⟨S, hS⟩ : ∃ S, S = L0.map stateF := ⟨_, rfl⟩
    obtain ⟨T, hT⟩ : ∃ T, T = L1.map transF := ⟨_, rfl⟩
    rw [← hS] at HSS hk1 hk2 hsm
    rw [← hT] at HTT hk1 hk2
    obtain ⟨l, el, hq, hl⟩ := spec_Drill_ev (T := T) hsm a
    obtain ⟨k3, hk3⟩ := el.rounds
    obtain ⟨LI, hLI⟩ : ∃ LI, LI = ints l := ⟨_, rfl⟩
    rw [← hLI] at hk3
    have hLn : LI.length ≤ 200 := by rw [hLI, ints_len]; exact hl
    have hLS : Short LI := by unfold Short; omega
    have HLI := Aside0.mk hLI
    have HK1 := Aside0.mk hk1
    have HK2 := Aside0.mk hk2
    have HK3 := Aside0.mk hk3
    have HQ := Aside0.mk hq
    clear hS hT hk1 hk2 hk3 el hq hl hsh hsm hLI
    have tok1 : True := trivial
    have tok2 : True := trivial
    go_enter Try.func5, Try.ntmps5
    go_wp2_with (first
      | ((with_reducible refine gate_dst (N := 2) rfl ?_); refine box_event ?hg (N := 2) ?hd (cs := #[.slice A0 L0.length c0, .slice A1 L1.length c1]) (t := 25) ?hr ?_; (case hd => rfl); (case hg => rfl); (case hr => first | (go_simp; done) | (go_simp; rfl)); intro gc hgc w1 hbc hb_; have HBC := Aside0.mk hbc; have hcc0 := (blkc HBC.out 0).trans rfl; have hcc1 := (blkc HBC.out 1).trans rfl; have n_ := Aside0.mk (HB.out.trans hb_); clear HB; have HB := n_; clear n_ hbc hgc hb_)
      | (go_at_call 6; refine (laws_szChart.calls k0 A0 c0 L0 A1 c1 L1 1048576 r _ (Kd.C_below HR0.out HB.out) hc0 (Kd.C_below HR1.out HB.out) hc1 HK0.out).mono ?_; rintro e w2 ⟨rfl, hb2⟩; have n_ := Aside0.mk (HB.out.trans (hb2.mono HB.out.size)); clear HB; have HB := n_; clear n_; have n_ := Aside0.mk ((hb2.block _ (blk_lt HBC.out)).trans HBC.out); clear HBC; have HBC := n_; clear n_ hb2 hcc0 hcc1; have hcc0 := (blkc HBC.out 0).trans rfl; have hcc1 := (blkc HBC.out 1).trans rfl)
      | (go_at_call 8; have _t := tok1; refine (toChart_read (Kd.C_below HR0.out HB.out) hc0 (Kd.C_below HR1.out HB.out) hc1 HK1.out).mono ?_; rintro e w3 ⟨X0, x0, X1, x1, rfl, hx0, hx1, hX0, hX1, hb2⟩; have HX0 := Aside0.mk hX0; have HX1 := Aside0.mk hX1; have n_ := Aside0.mk (HB.out.trans (hb2.mono HB.out.size)); clear HB; have HB := n_; clear n_; have n_ := Aside0.mk ((hb2.block _ (blk_lt HBC.out)).trans HBC.out); clear HBC; have HBC := n_; clear n_ hb2 hcc0 hcc1; clear hX0 hX1 tok1; have hcc0 := (blkc HBC.out 0).trans rfl; have hcc1 := (blkc HBC.out 1).trans rfl)
      | (go_at_call 17; refine (spec_Drill.calls k3 X0 x0 S X1 x1 T a LI _ HX0.out hx0 HX1.out hx1 HK3.out).mono ?_; rintro e w4 ⟨vW, rfl, hW, hb2⟩; obtain ⟨AW, cW, rfl⟩ := Kd.R_slice hW; have HW := Aside0.mk (Kd.R_mono (Kd.R_lower (Kd.R_bound hW) HB.out.size) (ok' := fun k => k < w4.heap.size) (fun k hk => hk.2.2.1)); clear hW; have n_ := Aside0.mk (HB.out.trans (hb2.mono HB.out.size)); clear HB; have HB := n_; clear n_; have n_ := Aside0.mk ((hb2.block _ (blk_lt HBC.out)).trans HBC.out); clear HBC; have HBC := n_; clear n_ hb2 hcc0 hcc1; have hcc0 := (blkc HBC.out 0).trans rfl; have hcc1 := (blkc HBC.out 1).trans rfl)
      | (go_at_call 8; have _t := tok2; refine (toChart_own (Kd.C_below HR0.out HB.out) hc0 (Kd.C_below HR1.out HB.out) hc1 HK1.out HSS.out HTT.out).mono ?_; rintro e w5 ⟨Y0, y0, Y1, y1, rfl, hy0, hy1, hY0, hY1, hb2, hOS, hOT⟩; have HY0 := Aside0.mk hY0; have HY1 := Aside0.mk hY1; have HOS := Aside0.mk hOS; have HOT := Aside0.mk hOT; have HL4 := Aside0.mk HB.out.size; have HG4 := Aside0.mk (blk_lt HBC.out); have HB5 := Aside0.mk hb2; have n_ := Aside0.mk (HB.out.trans (hb2.mono HB.out.size)); clear HB; have HB := n_; clear n_; have n_ := Aside0.mk ((hb2.block _ (blk_lt HBC.out)).trans HBC.out); clear HBC; have HBC := n_; clear n_ hb2 hcc0 hcc1; clear hY0 hY1 hOS hOT tok2; have hcc0 := (blkc HBC.out 0).trans rfl; have hcc1 := (blkc HBC.out 1).trans rfl))
    refine (Drill_calls (Kd.C_alloc HY0.out _) hy0 (Kd.C_alloc HY1.out _) hy1 a l HQ.out).mono ?_
    rintro e w6 ⟨vG, rfl, hm⟩
    have hb6 := hm.2
    have hgR := made_R2 (hi := w5.heap.size) hm (by simp)
    rw [← HLI.out] at hgR
    obtain ⟨AG, cG, rfl⟩ := Kd.R_slice hgR
    have HN := Aside0.mk (blk_new w5 (.cells #[.slice Y0 S.length y0, .slice Y1 T.length y1] 31))
    have HN6 := Aside0.mk ((hb6.block _ (blk_lt HN.out)).trans HN.out)
    have HD6 := Aside0.mk ((Below.refl w5.heap.size w5).alloc (Nat.le_refl _) (.cells #[.slice Y0 S.length y0, .slice Y1 T.length y1] 31) |>.trans (hb6.mono (by simp)))
    have hlow := HL4.out
    have hl45 := HB5.out.size
    have hgc := HG4.out
    have HI := Aside0.mk (show Inv w gc w4.heap.size w5.heap.size LI.length (.cells #[.slice A0 L0.length c0, .slice A1 L1.length c1] 25 (0, 0)) AW AG cW cG LI LI w6 from
      ⟨HB.out.trans (HD6.out.mono HB.out.size), (HD6.out.block _ (blk_lt HBC.out)).trans HBC.out, hgc, hlow, hl45, HD6.out.size, Kd.R_step HW.out (fun k hk _ => (HD6.out.block k (by omega)).trans (HB5.out.block k hk)), Kd.R_lower hgR (by omega)⟩)
    have hcG := (Kd.R_reads' HI.out.hg).2.1
    have hcW := (Kd.R_reads' HI.out.hw).2.1
    have HOS6 := Aside0.mk (okState_mk (Mk.of_below HD6.out hl45) HOS.out)
    have HOT6 := Aside0.mk (okTrans_mk (Mk.of_below HD6.out hl45) HOT.out)
    have HZ0 := Aside0.mk (Kd.C_below HY0.out HD6.out)
    have HZ1 := Aside0.mk (Kd.C_below HY1.out HD6.out)
    obtain ⟨lo, hlo⟩ : ∃ g, g = w4.heap.size := ⟨_, rfl⟩
    obtain ⟨hi, hhi⟩ : ∃ g, g = w5.heap.size := ⟨_, rfl⟩
    rw [← hlo, ← hhi] at HI HOS6 HOT6
    rw [← hhi] at HN6 ⊢
    have hl6 : lo ≤ w6.heap.size := Nat.le_trans HI.out.lh HI.out.hu
    have HD := Aside0.mk (Below.refl w6.heap.size w6)
    clear hb6 hm hcc0 hcc1 HN HBC HB hgR HD6 HY0 HY1 HX0 HX1 HW HOS HOT HL4 HG4 HB5 hlow hl45 hgc hlo hhi
    have hcc0 := (blkc HI.out.box 0).trans rfl
    have hcc1 := (blkc HI.out.box 1).trans rfl
    have hn0 := (blkc ((HD.out.block _ (blk_lt HN6.out)).trans HN6.out) 0).trans rfl; have hn1 := (blkc ((HD.out.block _ (blk_lt HN6.out)).trans HN6.out) 1).trans rfl
    have tok1 : True := trivial
    go_wp2_with (first
      | (go_at_call 13; have _t := tok1; refine (eq_calls (Kd.R_reads' HI.out.hg).2.2 hcG (Kd.R_reads' HI.out.hw).2.2 hcW hLS).mono ?_; rintro e w7 ⟨rfl, hb2⟩; have n_ := Aside0.mk (HD.out.trans (hb2.mono HD.out.size)); clear HD; have HD := n_; clear n_; have n_ := Aside0.mk (HI.out.below hb2); clear HI; have HI := n_; clear n_ hb2; clear hcc0 hcc1; have hcc0 := (blkc HI.out.box 0).trans rfl; have hcc1 := (blkc HI.out.box 1).trans rfl; clear hn0 hn1; have hn0 := (blkc ((HD.out.block _ (blk_lt HN6.out)).trans HN6.out) 0).trans rfl; have hn1 := (blkc ((HD.out.block _ (blk_lt HN6.out)).trans HN6.out) 1).trans rfl; clear tok1))
    go_region_with (first
      | (go_at_call 8; refine (toChart_read (Kd.C_below HR0.out HI.out.hb.drew) hc0 (Kd.C_below HR1.out HI.out.hb.drew) hc1 HK1.out).mono ?_; rintro e w8 ⟨V0, v0, V1, v1, rfl, hv0, hv1, hV0, hV1, hb7⟩; have HV0 := Aside0.mk hV0; have HV1 := Aside0.mk hV1; have hb2 := ((Below.refl w7.heap.size w7).drew).trans hb7; have n_ := Aside0.mk (HD.out.trans (hb2.mono HD.out.size)); clear HD; have HD := n_; clear n_; have n_ := Aside0.mk (HI.out.below hb2); clear HI; have HI := n_; clear n_ hb2; clear hcc0 hcc1; have hcc0 := (blkc HI.out.box 0).trans rfl; have hcc1 := (blkc HI.out.box 1).trans rfl; clear hn0 hn1; have hn0 := (blkc ((HD.out.block _ (blk_lt HN6.out)).trans HN6.out) 0).trans rfl; have hn1 := (blkc ((HD.out.block _ (blk_lt HN6.out)).trans HN6.out) 1).trans rfl; clear hb7 hV0 hV1)
      | (go_at_call 10; refine (laws_eqChart.calls k2 Y0 y0 S Y1 y1 T V0 v0 S V1 v1 T true _ (Kd.C_below HZ0.out HD.out) hy0 (Kd.C_below HZ1.out HD.out) hy1 HV0.out hv0 HV1.out hv1 HK2.out).mono ?_; rintro e w9 ⟨rfl, hb2⟩; have n_ := Aside0.mk (HD.out.trans (hb2.mono HD.out.size)); clear HD; have HD := n_; clear n_; have n_ := Aside0.mk (HI.out.below hb2); clear HI; have HI := n_; clear n_ hb2; clear hcc0 hcc1; have hcc0 := (blkc HI.out.box 0).trans rfl; have hcc1 := (blkc HI.out.box 1).trans rfl; clear hn0 hn1; have hn0 := (blkc ((HD.out.block _ (blk_lt HN6.out)).trans HN6.out) 0).trans rfl; have hn1 := (blkc ((HD.out.block _ (blk_lt HN6.out)).trans HN6.out) 1).trans rfl))
    all_goals
      have tok3 : True := trivial
      have tok4 : True := trivial
      go_wp2_with (first
        | (go_at_call 14; refine (markChart_calls (lo := lo) (hi := hi) (okState_mk (Mk.of_below HD.out hl6) HOS6.out) (okTrans_mk (Mk.of_below HD.out hl6) HOT6.out) (Nat.le_trans HI.out.lh HI.out.hu)).mono ?_; rintro e w10 ⟨rk, rfl, hrk, hmk⟩; have n_ := Aside0.mk (HI.out.mk' hmk); clear HI; have HI := n_; clear n_ hmk hn0 hn1; clear hcc0 hcc1; have hcc0 := (blkc HI.out.box 0).trans rfl; have hcc1 := (blkc HI.out.box 1).trans rfl)
        | (go_at_call 13; have _t := tok3; refine (eq_calls (Kd.R_reads' HI.out.hg).2.2 hcG (Kd.R_reads' HI.out.hw).2.2 hcW hLS).mono ?_; rintro e w11 ⟨rfl, hb2⟩; have n_ := Aside0.mk (HI.out.below hb2); clear HI; have HI := n_; clear n_ hb2; clear hcc0 hcc1; have hcc0 := (blkc HI.out.box 0).trans rfl; have hcc1 := (blkc HI.out.box 1).trans rfl; clear tok3)
        | (go_at_call 15; refine (mark_calls HI.out (by omega)).mono ?_; rintro e w12 ⟨rfl, hi2⟩; clear HI; have HI := Aside0.mk hi2; clear hi2; clear hcc0 hcc1; have hcc0 := (blkc HI.out.box 0).trans rfl; have hcc1 := (blkc HI.out.box 1).trans rfl)
        | (go_at_call 16; have _t := tok4; refine (held_calls HI.out.cntC hcG (by omega)).mono ?_; rintro e w13 ⟨rfl, hb2⟩; have n_ := Aside0.mk (HI.out.below hb2); clear HI; have HI := n_; clear n_ hb2; clear hcc0 hcc1; have hcc0 := (blkc HI.out.box 0).trans rfl; have hcc1 := (blkc HI.out.box 1).trans rfl; clear tok4)
        | (go_at_call 8; refine (toChart_read (Kd.C_below HR0.out HI.out.hb) hc0 (Kd.C_below HR1.out HI.out.hb) hc1 HK1.out).mono ?_; rintro e w14 ⟨V2, v2, V3, v3, rfl, hv2, hv3, hV2, hV3, hb2⟩; have HV2 := Aside0.mk hV2; have HV3 := Aside0.mk hV3; clear hV2 hV3; have n_ := Aside0.mk (HI.out.below hb2); clear HI; have HI := n_; clear n_ hb2; clear hcc0 hcc1; have hcc0 := (blkc HI.out.box 0).trans rfl; have hcc1 := (blkc HI.out.box 1).trans rfl)
        | (go_at_call 18; refine (Drill_calls HV2.out hv2 HV3.out hv3 a l HQ.out).mono ?_; rintro e w15 ⟨vH, rfl, hm⟩; have hb2 := hm.2; have hR := made_R hm; rw [← HLI.out] at hR; obtain ⟨AH, cH, rfl⟩ := Kd.R_slice hR; have hcH := (Kd.R_reads' hR).2.1; have HH := Aside0.mk (Kd.R_reads' hR).2.2; clear hm hR; have n_ := Aside0.mk (HI.out.below hb2); clear HI; have HI := n_; clear n_ hb2; clear hcc0 hcc1; have hcc0 := (blkc HI.out.box 0).trans rfl; have hcc1 := (blkc HI.out.box 1).trans rfl)
        | (go_at_call 13; refine (eq_calls HH.out hcH (Kd.R_reads' HI.out.hw).2.2 hcW hLS).mono ?_; rintro e w16 ⟨rfl, hb2⟩; have n_ := Aside0.mk (HI.out.below hb2); clear HI; have HI := n_; clear n_ hb2; clear hcc0 hcc1; have hcc0 := (blkc HI.out.box 0).trans rfl; have hcc1 := (blkc HI.out.box 1).trans rfl)
        | (go_at_call 16; refine (held_calls HI.out.cntC hcG (by omega)).mono ?_; rintro e w17 ⟨rfl, hb2⟩; have n_ := Aside0.mk (HI.out.below hb2); clear HI; have HI := n_; clear n_ hb2; clear hcc0 hcc1; have hcc0 := (blkc HI.out.box 0).trans rfl; have hcc1 := (blkc HI.out.box 1).trans rfl))
      go_ret
      exact ⟨rfl, HI.out.hb⟩
end Go.Proofs.Ytolcdkanebopiaa.Tree
