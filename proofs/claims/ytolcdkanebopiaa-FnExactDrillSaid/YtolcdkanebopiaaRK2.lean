/- Proved here: what markChart does to a chart that toChart made: numbers in the chart's own blocks change, nothing else; the count stays small. -/
import Derived.Test.YtolcdkanebopiaaRK1
namespace Go.Proofs.Ytolcdkanebopiaa.Tree
open Go.RowKit Go.Proofs.YtolcdkanebopiaaW.PrintWords Go.Proofs.YtolcdkanebopiaaW.PrintLast Go.Proofs.YtolcdkanebopiaaW.PrintMore Go.Proofs.Ytolcdkanebopiaa.PFnExactDomain
set_option linter.unusedVariables false
set_option linter.unusedSimpArgs false
theorem getD_mem {α : Type} {l : List α} {j : Nat} {z : α} (h : j < l.length) : l.getD j z ∈ l := by simp [List.getD, List.getElem?_eq_getElem h]
theorem Mk.of_below {lo hi : Nat} {w w' : World} (h : Below w.heap.size w w') (hlo : lo ≤ w.heap.size) : Mk lo hi w w' :=
  ⟨⟨h.os, h.tape, h.output, h.size, fun k hk => h.block k (by omega)⟩, fun k _ hk => h.block k hk, fun a v hc => by
    have hlt := World.block_lt_of_cell? w a hc
    have hb := h.block _ hlt
    exact ⟨by simp only [World.frozen?, hb], .inl ((h.cell hlt).trans hc)⟩⟩
theorem okState_mk {lo hi n : Nat} {w w' : World} {A : Option Addr} (k : Mk lo hi w w') (h : Ok (stateE lo hi) lo hi w A n) : Ok (stateE lo hi) lo hi w' A n := h.mk fun _ _ => stateE_mk k
theorem okTrans_mk {lo hi n : Nat} {w w' : World} {A : Option Addr} (k : Mk lo hi w w') (h : Ok (transE lo hi) lo hi w A n) : Ok (transE lo hi) lo hi w' A n := h.mk fun _ _ => transE_mk k
section
variable {w : World} {lo hi base n c : Nat} {ok : Nat → Prop} {A : Option Addr}
theorem okItem_of {xs : List S98} (h : Kd.R k98 98 w base ok (.slice A n c) xs) (hs : Short xs) (hl : lo ≤ base) (hh : w.heap.size ≤ hi) : Ok itemE lo hi w A n := by
  obtain ⟨hn, _, _⟩ := Kd.R_reads' h
  refine ⟨by unfold Short at hs; omega, fun hp => ?_⟩
  obtain ⟨g, cap, e, hb, hlt, _⟩ := Kd.R_form h (by omega)
  injection e with e1 e2 e3
  subst e1
  refine ⟨g, rfl, by omega, by omega, fun j hj => ?_⟩
  obtain ⟨cs, _, hM, hc, hf⟩ := Kd.R_elem h z98 j (by omega) (by omega)
  rw [Int.toNat_natCast] at hM hc hf
  obtain rfl := k98_openM hM
  exact ⟨⟨hf 0, _, hc 0 _ rfl⟩, hf 1, _, hc 1 _ rfl⟩
theorem okStm_of {xs : List S96} (h : Kd.R k96 96 w base ok (.slice A n c) xs) (hs : Short xs ∧ ∀ x ∈ xs, Short x.f3) (hl : lo ≤ base) (hh : w.heap.size ≤ hi) : Ok (stmE lo hi) lo hi w A n := by
  obtain ⟨hn, _, _⟩ := Kd.R_reads' h
  have hs1 := hs.1
  refine ⟨by unfold Short at hs1; omega, fun hp => ?_⟩
  obtain ⟨g, cap, e, hb, hlt, _⟩ := Kd.R_form h (by omega)
  injection e with e1 e2 e3
  subst e1
  refine ⟨g, rfl, by omega, by omega, fun j hj => ?_⟩
  obtain ⟨cs, _, hM, hc, hf⟩ := Kd.R_elem h z96 j (by omega) (by omega)
  rw [Int.toNat_natCast] at hM hc hf
  have hmem : xs.getD j z96 ∈ xs := getD_mem (by omega)
  obtain ⟨v3, rfl, h3⟩ := k96_openM hM
  obtain ⟨A3, c3, rfl⟩ := Kd.R_slice h3
  exact ⟨⟨hf 0, _, hc 0 _ rfl⟩, ⟨hf 1, _, hc 1 _ rfl⟩, ⟨hf 2, _, hc 2 _ rfl⟩, _, _, _, hc 3 _ rfl, okItem_of h3 (hs.2 _ hmem) hl hh⟩
def ShS96 (xs : List S96) : Prop := Short xs ∧ ∀ x ∈ xs, Short x.f3
theorem okState_of {xs : List S76} (h : Kd.R k76 76 w base ok (.slice A n c) xs) (hs : Short xs ∧ ∀ x ∈ xs, ShS96 x.f2 ∧ ShS96 x.f3) (hl : lo ≤ base) (hh : w.heap.size ≤ hi) : Ok (stateE lo hi) lo hi w A n := by
  obtain ⟨hn, _, _⟩ := Kd.R_reads' h
  have hs1 := hs.1
  refine ⟨by unfold Short at hs1; omega, fun hp => ?_⟩
  obtain ⟨g, cap, e, hb, hlt, _⟩ := Kd.R_form h (by omega)
  injection e with e1 e2 e3
  subst e1
  refine ⟨g, rfl, by omega, by omega, fun j hj => ?_⟩
  obtain ⟨cs, _, hM, hc, hf⟩ := Kd.R_elem h z76 j (by omega) (by omega)
  rw [Int.toNat_natCast] at hM hc hf
  have hmem : xs.getD j z76 ∈ xs := getD_mem (by omega)
  obtain ⟨v2, v3, rfl, h2, h3⟩ := k76_openM hM
  obtain ⟨A2, c2, rfl⟩ := Kd.R_slice h2
  obtain ⟨A3, c3, rfl⟩ := Kd.R_slice h3
  exact ⟨⟨hf 0, _, hc 0 _ rfl⟩, ⟨hf 1, _, hc 1 _ rfl⟩, ⟨_, _, _, hc 2 _ rfl, okStm_of h2 (hs.2 _ hmem).1 hl hh⟩, _, _, _, hc 3 _ rfl, okStm_of h3 (hs.2 _ hmem).2 hl hh⟩
theorem okTrans_of {xs : List S80} (h : Kd.R k80 80 w base ok (.slice A n c) xs) (hs : Short xs ∧ ∀ x ∈ xs, Short x.f2 ∧ ShS96 x.f4) (hl : lo ≤ base) (hh : w.heap.size ≤ hi) : Ok (transE lo hi) lo hi w A n := by
  obtain ⟨hn, _, _⟩ := Kd.R_reads' h
  have hs1 := hs.1
  refine ⟨by unfold Short at hs1; omega, fun hp => ?_⟩
  obtain ⟨g, cap, e, hb, hlt, _⟩ := Kd.R_form h (by omega)
  injection e with e1 e2 e3
  subst e1
  refine ⟨g, rfl, by omega, by omega, fun j hj => ?_⟩
  obtain ⟨cs, _, hM, hc, hf⟩ := Kd.R_elem h z80 j (by omega) (by omega)
  rw [Int.toNat_natCast] at hM hc hf
  have hmem : xs.getD j z80 ∈ xs := getD_mem (by omega)
  obtain ⟨v2, v4, rfl, h2, h4⟩ := k80_openM hM
  obtain ⟨A2, c2, rfl⟩ := Kd.R_slice h2
  obtain ⟨A4, c4, rfl⟩ := Kd.R_slice h4
  exact ⟨⟨hf 0, _, hc 0 _ rfl⟩, ⟨hf 1, _, hc 1 _ rfl⟩, ⟨_, _, _, hc 2 _ rfl, okItem_of h2 (hs.2 _ hmem).1 hl hh⟩, ⟨hf 3, _, hc 3 _ rfl⟩, _, _, _, hc 4 _ rfl, okStm_of h4 (hs.2 _ hmem).2 hl hh⟩
end
theorem short_states {L : List S66} (h : Short L) (hs : ∀ x ∈ L, ShState x) : Short (L.map stateF) ∧ ∀ x ∈ L.map stateF, ShS96 x.f2 ∧ ShS96 x.f3 :=
  ⟨short_map h, fun x hx => by obtain ⟨a, ha, rfl⟩ := List.mem_map.1 hx; exact ⟨shStms_map (hs a ha).1, shStms_map (hs a ha).2⟩⟩
theorem short_trans {L : List S70} (h : Short L) (hs : ∀ x ∈ L, ShTrans x) : Short (L.map transF) ∧ ∀ x ∈ L.map transF, Short x.f2 ∧ ShS96 x.f4 :=
  ⟨short_map h, fun x hx => by obtain ⟨a, ha, rfl⟩ := List.mem_map.1 hx; exact ⟨short_map (hs a ha).1, shStms_map (hs a ha).2⟩⟩
set_option maxHeartbeats 800000 in
set_option maxRecDepth 100000 in
theorem markChart_calls {lo hi n0 n1 c0 c1 : Nat} {w : World} {A0 A1 : Option Addr} (h0 : Ok (stateE lo hi) lo hi w A0 n0) (h1 : Ok (transE lo hi) lo hi w A1 n1) (hlo : lo ≤ w.heap.size) :
    Calls Try.prog 14 #[.agg #[.slice A0 n0 c0, .slice A1 n1 c1], .int .i64 1] w fun e w' => ∃ r : Int, e = .returned (.int .i64 r) ∧ 0 ≤ r ∧ Mk lo hi w w' := by
  have hu31 := Try.underlying31
  have hn0 := h0.1
  have hn1 := h1.1
  have H0 := Aside0.mk h0
  have H1 := Aside0.mk h1
  have HM := Aside0.mk (Mk.refl lo hi w)
  clear h0 h1
  go_enter Try.func14, Try.ntmps14
  go_wp2_with (first
    | ((with_reducible refine gate_dst (N := 2) rfl ?_); refine box_event ?hg (N := 2) ?hd (cs := #[.slice A0 n0 c0, .slice A1 n1 c1]) (t := 31) ?hr ?_; (case hd => rfl); (case hg => rfl); (case hr => first | (go_simp; done) | (go_simp; rfl)); intro gc hgc w1 hbc hb_; have S_ := Mk.of_below (lo := lo) (hi := hi) hb_ hlo; have n_ := Aside0.mk (HM.out.trans S_); clear HM; have HM := n_; clear n_ S_; have HBC := Aside0.mk hbc; have hcc0 := (blkc HBC.out 0).trans rfl; have hcc1 := (blkc HBC.out 1).trans rfl; clear hbc hgc hb_)
    | (go_at_call 34; refine (markState_calls (lo := lo) (hi := hi) (okState_mk HM.out H0.out) (by omega) (by omega)).mono ?_; rintro e w2 ⟨r2, rfl, hr2, hs2, S_⟩; have hcc1 := S_.slice hcc1; have n_ := Aside0.mk (HM.out.trans S_); clear HM; have HM := n_; clear n_ S_ hcc0)
    | (go_at_call 35; refine (markTrans_calls (lo := lo) (hi := hi) (okTrans_mk HM.out H1.out) (by omega) (by omega)).mono ?_; rintro e w3 ⟨r3, rfl, hr3, hs3, S_⟩; have n_ := Aside0.mk (HM.out.trans S_); clear HM; have HM := n_; clear n_ S_))
  go_ret
  exact ⟨r3, rfl, by omega, HM.out⟩
end Go.Proofs.Ytolcdkanebopiaa.Tree
