/- Proved here: laws.FnExactDomain answers true, for every chart and every two numbers that can be read; it writes to no memory that was there. -/
import Derived.Test.YtolcdkanebopiaaRM2
namespace Go.Proofs.Ytolcdkanebopiaa.Tree
open Go.RowKit Go.Proofs.YtolcdkanebopiaaW.PrintWords Go.Proofs.YtolcdkanebopiaaW.PrintLast Go.Proofs.YtolcdkanebopiaaW.PrintMore Go.Proofs.Ytolcdkanebopiaa.PFnExactDomain
set_option linter.unusedVariables false
set_option linter.unusedSimpArgs false
theorem c_each {α : Type} {d : Kd α} {w : World} {A : Option Addr} {n : Nat} {xs : List α} (h : Kd.C d w A n xs) : ∀ x ∈ xs, ∃ cs, d.K w x cs := fun x hx => by
  obtain ⟨j, hj, rfl⟩ := List.getElem_of_mem hx
  obtain ⟨ad, _, hc⟩ := h.2.2 (by have := h.1; omega)
  obtain ⟨c, _, hk, _⟩ := hc j _ (List.getElem?_eq_getElem hj)
  exact ⟨c, hk⟩
theorem c_fits {α : Type} {d : Kd α} {w : World} {A : Option Addr} {n : Nat} {xs : List α} (h : Kd.C d w A n xs) : Fits xs := by
  unfold Fits; have := h.1; have := h.2.1; omega
theorem fit_stms {w : World} {A : Option Addr} {n : Nat} {xs : List S101} (h : Kd.C k101 w A n xs) : FitStms xs :=
  ⟨c_fits h, fun x hx => by obtain ⟨cs, hk⟩ := c_each h x hx; obtain ⟨_, _, _, _, hc⟩ := k101_open hk; exact c_fits hc⟩
theorem fit_chart {w : World} {A0 A1 : Option Addr} {n0 n1 : Nat} {L0 : List S66} {L1 : List S70} (h0 : Kd.C k66 w A0 n0 L0) (h1 : Kd.C k70 w A1 n1 L1) : FitChart L0 L1 :=
  ⟨c_fits h0, fun x hx => by obtain ⟨cs, hk⟩ := c_each h0 x hx; obtain ⟨_, _, _, _, _, _, hc, _, hc2⟩ := k66_open hk; exact ⟨fit_stms hc, fit_stms hc2⟩,
   c_fits h1, fun x hx => by obtain ⟨cs, hk⟩ := c_each h1 x hx; obtain ⟨_, _, _, _, _, _, hc, _, hc2⟩ := k70_open hk; exact ⟨c_fits hc, fit_stms hc2⟩⟩
theorem toChart_read {w : World} {A0 A1 : Option Addr} {c0 c1 : Nat} {L0 : List S66} {L1 : List S70} {S : List S76} {T : List S80} (hr0 : Kd.C k66 w A0 L0.length L0) (hc0 : L0.length ≤ c0) (hr1 : Kd.C k70 w A1 L1.length L1) (hc1 : L1.length ≤ c1) {k : Nat} (hk : laws_toChart.f k L0 L1 = some (S, T)) :
    Calls Try.prog 8 #[.agg #[.slice A0 L0.length c0, .slice A1 L1.length c1]] w fun e w' => ∃ B0 d0 B1 d1, e = .returned (.agg #[.slice B0 S.length d0, .slice B1 T.length d1]) ∧ S.length ≤ d0 ∧ T.length ≤ d1 ∧ Kd.C k76 w' B0 S.length S ∧ Kd.C k80 w' B1 T.length T ∧ Below w.heap.size w w' := by
  refine (laws_toChart.calls k A0 c0 L0 A1 c1 L1 S T w hr0 hc0 hr1 hc1 hk).mono ?_
  rintro e w' ⟨v0, v1, rfl, h0, h1, hb⟩
  obtain ⟨B0, d0, rfl⟩ := Kd.R_slice h0
  obtain ⟨B1, d1, rfl⟩ := Kd.R_slice h1
  exact ⟨B0, d0, B1, d1, rfl, (Kd.R_reads' h0).2.1, (Kd.R_reads' h1).2.1, (Kd.R_reads' h0).2.2, (Kd.R_reads' h1).2.2, hb⟩
end Go.Proofs.Ytolcdkanebopiaa.Tree
