/- Proved here: laws.FnExactDomain answers true, for every chart and every two numbers that can be read; it writes to no memory that was there. -/
import Derived.Test.YtolcdkanebopiaaDM2
namespace Go.Proofs.Ytolcdkanebopiaa.Tree
open Go.RowKit Go.Proofs.YtolcdkanebopiaaW.PrintWords Go.Proofs.YtolcdkanebopiaaW.PrintLast Go.Proofs.YtolcdkanebopiaaW.PrintMore Go.Proofs.Ytolcdkanebopiaa.PFnExactDomain
set_option linter.unusedVariables false
set_option linter.unusedSimpArgs false
theorem c_each {α : Type} {d : Kd α} {w : World} {A : Option Addr} {n : Nat} {xs : List α} (h : Kd.C d w A n xs) : ∀ x ∈ xs, ∃ cs, d.K w x cs := fun x hx => by
  obtain ⟨j, hj, rfl⟩ := List.getElem_of_mem hx
  obtain ⟨ad, _, hc⟩ := h.2.2 (by have := h.1; omega)
  obtain ⟨c, _, hk, _⟩ := hc j _ (List.getElem?_eq_getElem hj)
  exact ⟨c, hk⟩
theorem c_fits {α : Type} {d : Kd α} {w : World} {A : Option Addr} {n : Nat} {xs : List α} (h : Kd.C d w A n xs) : Fits xs := by
  unfold Fits; have := h.1; have := h.2.1; omega
theorem fit_stms {w : World} {A : Option Addr} {n : Nat} {xs : List S101} (h : Kd.C k101 w A n xs) : FitStms xs :=
  ⟨c_fits h, fun x hx => by obtain ⟨cs, hk⟩ := c_each h x hx; obtain ⟨_, _, _, _, hc⟩ := k101_open hk; exact c_fits hc⟩
theorem fit_chart {w : World} {A0 A1 : Option Addr} {n0 n1 : Nat} {L0 : List S66} {L1 : List S70} (h0 : Kd.C k66 w A0 n0 L0) (h1 : Kd.C k70 w A1 n1 L1) : FitChart L0 L1 :=
  ⟨c_fits h0, fun x hx => by obtain ⟨cs, hk⟩ := c_each h0 x hx; obtain ⟨_, _, _, _, _, _, hc, _, hc2⟩ := k66_open hk; exact ⟨fit_stms hc, fit_stms hc2⟩,
   c_fits h1, fun x hx => by obtain ⟨cs, hk⟩ := c_each h1 x hx; obtain ⟨_, _, _, _, _, _, hc, _, hc2⟩ := k70_open hk; exact ⟨c_fits hc, fit_stms hc2⟩⟩
theorem toChart_read {w : World} {A0 A1 : Option Addr} {c0 c1 : Nat} {L0 : List S66} {L1 : List S70} {S : List S76} {T : List S80} (hr0 : Kd.C k66 w A0 L0.length L0) (hc0 : L0.length ≤ c0) (hr1 : Kd.C k70 w A1 L1.length L1) (hc1 : L1.length ≤ c1) {k : Nat} (hk : laws_toChart.f k L0 L1 = some (S, T)) :
    Calls Try.prog 8 #[.agg #[.slice A0 L0.length c0, .slice A1 L1.length c1]] w fun e w' => ∃ B0 d0 B1 d1, e = .returned (.agg #[.slice B0 S.length d0, .slice B1 T.length d1]) ∧ S.length ≤ d0 ∧ T.length ≤ d1 ∧ Kd.C k76 w' B0 S.length S ∧ Kd.C k80 w' B1 T.length T ∧ Below w.heap.size w w' := by
  refine (laws_toChart.calls k A0 c0 L0 A1 c1 L1 S T w hr0 hc0 hr1 hc1 hk).mono ?_
  rintro e w' ⟨v0, v1, rfl, h0, h1, hb⟩
  obtain ⟨B0, d0, rfl⟩ := Kd.R_slice h0
  obtain ⟨B1, d1, rfl⟩ := Kd.R_slice h1
  exact ⟨B0, d0, B1, d1, rfl, (Kd.R_reads' h0).2.1, (Kd.R_reads' h1).2.1, (Kd.R_reads' h0).2.2, (Kd.R_reads' h1).2.2, hb⟩
set_option maxHeartbeats 4000000 in
set_option maxRecDepth 100000 in
theorem domain_law {w : World} {A0 A1 : Option Addr} {c0 c1 : Nat} {L0 : List S66} {L1 : List S70} (hr0 : Kd.C k66 w A0 L0.length L0) (hc0 : L0.length ≤ c0) (hr1 : Kd.C k70 w A1 L1.length L1) (hc1 : L1.length ≤ c1) (a b : Int) :
    Calls Try.prog 3 #[.agg #[.slice A0 L0.length c0, .slice A1 L1.length c1], .int .i64 a, .int .i64 b] w fun e w' => e = .returned (.bool true) ∧ Below w.heap.size w w' := by
  have hu25 := Try.underlying25
  have hu31 := Try.underlying31
  obtain ⟨r, er, hr⟩ := szChart_ev (fit_chart hr0 hr1)
  obtain ⟨k0, hk0⟩ := er.rounds
  have HK0 := Aside0.mk hk0
  have HR0 := Aside0.mk hr0
  have HR1 := Aside0.mk hr1
  have HB := Aside0.mk (Below.refl w.heap.size w)
  clear hk0 er hr0 hr1
  rcases hr with hr | ⟨hr, hsh⟩
  · go_enter Try.func3, Try.ntmps3
    go_wp2_with (first
      | ((with_reducible refine gate_dst (N := 3) rfl ?_); refine box_event ?hg (N := 3) ?hd (cs := #[.slice A0 L0.length c0, .slice A1 L1.length c1]) (t := 25) ?hr ?_; (case hd => rfl); (case hg => rfl); (case hr => first | (go_simp; done) | (go_simp; rfl)); intro gc hgc w1 hbc hb_; have hcc0 := (blkc hbc 0).trans rfl; have hcc1 := (blkc hbc 1).trans rfl; have n_ := Aside0.mk (HB.out.trans hb_); clear HB; have HB := n_; clear n_ hbc hgc hb_)
      | (go_at_call 6; refine (laws_szChart.calls k0 A0 c0 L0 A1 c1 L1 1048576 r _ (Kd.C_below HR0.out HB.out) hc0 (Kd.C_below HR1.out HB.out) hc1 HK0.out).mono ?_; rintro e w2 ⟨rfl, hb2⟩; have n_ := Aside0.mk (HB.out.trans (hb2.mono HB.out.size)); clear HB; have HB := n_; clear n_ hb2))
    go_ret
    exact ⟨rfl, HB.out⟩
  · obtain ⟨S, hS⟩ : ∃ S, S = L0.map stateF := ⟨_, rfl⟩
    obtain ⟨T, hT⟩ : ∃ T, T = L1.map transF := ⟨_, rfl⟩
    obtain ⟨k1, hk1⟩ := (toChart_ev hsh).rounds
    obtain ⟨k2, hk2⟩ := (eqChart_ev hsh).rounds
    have hshort : Short S := by rw [hS]; exact short_map hsh.a
    rw [← hS, ← hT] at hk1 hk2
    obtain ⟨q, eq_, hq⟩ := spec_Domain_ev (T := T) hshort a b
    obtain ⟨k3, hk3⟩ := eq_.rounds
    have HK1 := Aside0.mk hk1
    have HK2 := Aside0.mk hk2
    have HK3 := Aside0.mk hk3
    have HQ := Aside0.mk hq
    clear hS hT hk1 hk2 hk3 eq_ hq hsh hshort
    have tok1 : True := trivial
    have tok2 : True := trivial
    go_enter Try.func3, Try.ntmps3
    go_wp2_with (first
      | ((with_reducible refine gate_dst (N := 3) rfl ?_); refine box_event ?hg (N := 3) ?hd (cs := #[.slice A0 L0.length c0, .slice A1 L1.length c1]) (t := 25) ?hr ?_; (case hd => rfl); (case hg => rfl); (case hr => first | (go_simp; done) | (go_simp; rfl)); intro gc hgc w1 hbc hb_; have HBC := Aside0.mk hbc; have hcc0 := (blkc HBC.out 0).trans rfl; have hcc1 := (blkc HBC.out 1).trans rfl; have n_ := Aside0.mk (HB.out.trans hb_); clear HB; have HB := n_; clear n_ hbc hgc hb_)
      | (go_at_call 6; refine (laws_szChart.calls k0 A0 c0 L0 A1 c1 L1 1048576 r _ (Kd.C_below HR0.out HB.out) hc0 (Kd.C_below HR1.out HB.out) hc1 HK0.out).mono ?_; rintro e w2 ⟨rfl, hb2⟩; have n_ := Aside0.mk (HB.out.trans (hb2.mono HB.out.size)); clear HB; have HB := n_; clear n_; have n_ := Aside0.mk ((hb2.block _ (blk_lt HBC.out)).trans HBC.out); clear HBC; have HBC := n_; clear n_ hb2 hcc0 hcc1; have hcc0 := (blkc HBC.out 0).trans rfl; have hcc1 := (blkc HBC.out 1).trans rfl)
      | (go_at_call 8; have _t := tok1; refine (toChart_read (Kd.C_below HR0.out HB.out) hc0 (Kd.C_below HR1.out HB.out) hc1 HK1.out).mono ?_; rintro e w3 ⟨X0, x0, X1, x1, rfl, hx0, hx1, hX0, hX1, hb2⟩; have HX0 := Aside0.mk hX0; have HX1 := Aside0.mk hX1; have n_ := Aside0.mk (HB.out.trans (hb2.mono HB.out.size)); clear HB; have HB := n_; clear n_; have n_ := Aside0.mk ((hb2.block _ (blk_lt HBC.out)).trans HBC.out); clear HBC; have HBC := n_; clear n_ hb2 hcc0 hcc1 hX0 hX1 tok1; have hcc0 := (blkc HBC.out 0).trans rfl; have hcc1 := (blkc HBC.out 1).trans rfl)
      | (go_at_call 7; refine (spec_Domain.calls k3 X0 x0 S X1 x1 T a b q _ HX0.out hx0 HX1.out hx1 HK3.out).mono ?_; rintro e w4 ⟨rfl, hb2⟩; have n_ := Aside0.mk (HB.out.trans (hb2.mono HB.out.size)); clear HB; have HB := n_; clear n_; have n_ := Aside0.mk ((hb2.block _ (blk_lt HBC.out)).trans HBC.out); clear HBC; have HBC := n_; clear n_ hb2 hcc0 hcc1; have hcc0 := (blkc HBC.out 0).trans rfl; have hcc1 := (blkc HBC.out 1).trans rfl)
      | (go_at_call 8; have _t := tok2; refine (toChart_read (Kd.C_below HR0.out HB.out) hc0 (Kd.C_below HR1.out HB.out) hc1 HK1.out).mono ?_; rintro e w5 ⟨Y0, y0, Y1, y1, rfl, hy0, hy1, hY0, hY1, hb2⟩; have HY0 := Aside0.mk hY0; have HY1 := Aside0.mk hY1; have n_ := Aside0.mk (HB.out.trans (hb2.mono HB.out.size)); clear HB; have HB := n_; clear n_; have n_ := Aside0.mk ((hb2.block _ (blk_lt HBC.out)).trans HBC.out); clear HBC; have HBC := n_; clear n_ hb2 hcc0 hcc1 hY0 hY1 tok2; have hcc0 := (blkc HBC.out 0).trans rfl; have hcc1 := (blkc HBC.out 1).trans rfl))
    refine (Domain_calls (Kd.C_alloc HY0.out _) hy0 (Kd.C_alloc HY1.out _) hy1 a b q HQ.out).mono ?_
    rintro e w6 ⟨rfl, hb6⟩
    have HN := Aside0.mk (blk_new w5 (.cells #[.slice Y0 S.length y0, .slice Y1 T.length y1] 31))
    have HB6 := Aside0.mk ((HB.out.alloc HB.out.size (.cells #[.slice Y0 S.length y0, .slice Y1 T.length y1] 31)).trans (hb6.mono (by have := HB.out.size; simp; omega)))
    have HN6 := Aside0.mk ((hb6.block _ (blk_lt HN.out)).trans HN.out)
    have HC6 := Aside0.mk ((hb6.block _ (by have := blk_lt HBC.out; simp; omega)).trans ((heap_alloc_old w5 _ (blk_lt HBC.out)).trans HBC.out))
    have HZ0 := Aside0.mk (Kd.C_below (Kd.C_alloc HY0.out (.cells #[.slice Y0 S.length y0, .slice Y1 T.length y1] 31)) hb6)
    have HZ1 := Aside0.mk (Kd.C_below (Kd.C_alloc HY1.out (.cells #[.slice Y0 S.length y0, .slice Y1 T.length y1] 31)) hb6)
    obtain ⟨gx, hgx⟩ : ∃ g, g = w5.heap.size := ⟨_, rfl⟩
    rw [← hgx] at HN6 ⊢
    clear hb6 hcc0 hcc1 HN hgx HBC HB
    have hc0' := (blkc HC6.out 0).trans rfl
    have hc1' := (blkc HC6.out 1).trans rfl
    have hn0' := (blkc HN6.out 0).trans rfl
    have hn1' := (blkc HN6.out 1).trans rfl
    go_wp2_with fail
    go_region_with (first
      | (go_at_call 8; refine (toChart_read (Kd.C_below HR0.out HB6.out.drew) hc0 (Kd.C_below HR1.out HB6.out.drew) hc1 HK1.out).mono ?_; rintro e w7 ⟨V0, v0, V1, v1, rfl, hv0, hv1, hV0, hV1, hb7⟩; have HV0 := Aside0.mk hV0; have HV1 := Aside0.mk hV1; have HD := Aside0.mk (((Below.refl w6.heap.size w6).drew).trans hb7); have HB7 := Aside0.mk (HB6.out.trans (HD.out.mono HB6.out.size)); have hn0'' := (HD.out.cell (World.block_lt_of_cell? w6 _ hn0')).trans hn0'; have hn1'' := (HD.out.cell (World.block_lt_of_cell? w6 _ hn1')).trans hn1'; clear hb7 hV0 hV1)
      | (go_at_call 10; refine (laws_eqChart.calls k2 Y0 y0 S Y1 y1 T V0 v0 S V1 v1 T true _ (Kd.C_below HZ0.out HD.out) hy0 (Kd.C_below HZ1.out HD.out) hy1 HV0.out hv0 HV1.out hv1 HK2.out).mono ?_; rintro e w8 ⟨rfl, hb8⟩; have HB8 := Aside0.mk (HB7.out.trans (hb8.mono HB7.out.size)); clear hb8))
    all_goals
      go_wp2_with fail
      go_ret
      exact ⟨rfl, HB8.out⟩
end Go.Proofs.Ytolcdkanebopiaa.Tree
