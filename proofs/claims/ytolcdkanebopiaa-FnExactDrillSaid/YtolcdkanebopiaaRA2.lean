/- Proved here: what impl's Ancestors and Drill give. -/
import Derived.Test.YtolcdkanebopiaaRA1
import Derived.Deep.Onto
namespace Go.Proofs.Ytolcdkanebopiaa.Tree
open Go.RowKit Go.Proofs.YtolcdkanebopiaaW.PrintWords Go.Proofs.YtolcdkanebopiaaW.PrintLast Go.Proofs.YtolcdkanebopiaaW.PrintMore Go.Proofs.Ytolcdkanebopiaa.PFnExactDomain
set_option linter.unusedVariables false
set_option linter.unusedSimpArgs false
set_option maxHeartbeats 4000000 in
set_option maxRecDepth 100000 in
theorem at_good {w : World} {A0 A1 : Option Addr} {c0 c1 : Nat} {S : List S76} {T : List S80} (hg : Good S T) (hr0 : Kd.C k76 w A0 S.length S) (hc0 : S.length ≤ c0) (hr1 : Kd.C k80 w A1 T.length T) (hc1 : T.length ≤ c1) (a : Nat) (ha : a < S.length) :
    Calls Try.prog 32 #[.agg #[.slice A0 S.length c0, .slice A1 T.length c1], .int .i64 a] w fun e w' => ∃ B ch, e = .returned (.pointer (some ⟨B a, 0, none⟩)) ∧ Fam w' S.length B (parS S) (iniS S) ch ∧ Below w.heap.size w w' := by
  have hu31 := Try.underlying31
  have hu50 := Try.underlying50
  have HR0 := Aside0.mk hr0
  have HR1 := Aside0.mk hr1
  clear hr0 hr1
  have HB := Aside0.mk (Below.refl w.heap.size w)
  have hn := hg.n2
  go_enter Try.func32, Try.ntmps32
  go_wp2_with (first
    | ((with_reducible refine gate_dst (N := 2) rfl ?_); refine box_event ?hg (N := 2) ?hd (cs := #[.slice A0 S.length c0, .slice A1 T.length c1]) (t := 31) ?hr ?_; (case hd => rfl); (case hg => rfl); (case hr => first | (go_simp; done) | (go_simp; rfl)); intro gc hgc w1 hbc hb_; have hcc0 := (blkc hbc 0).trans rfl; have hcc1 := (blkc hbc 1).trans rfl; have n_ := Aside0.mk (HB.out.trans hb_); clear HB; have HB := n_; clear n_ hbc hgc hb_)
    | (go_at_call 25; refine (tree_good hg (Kd.C_below HR0.out HB.out) hc0 (Kd.C_below HR1.out HB.out) hc1).mono ?_; rintro e w2 ⟨ad, cn, B, ch, rfl, hrd, hf, hb2⟩; have HRD := Aside0.mk hrd; have HF := Aside0.mk hf; have n_ := Aside0.mk (HB.out.trans (hb2.mono HB.out.size)); clear HB; have HB := n_; clear n_ hb2 hrd hf; obtain ⟨ada, ea, hxa⟩ := rd_ptr HRD.out (List.getElem?_range ha); cases ea)
    | (go_at_call 26; refine (within_yes _ (by omega) (by omega)).mono ?_; rintro e w3 ⟨rfl, q1, rfl⟩))
  go_ret
  exact ⟨B, ch, rfl, HF.out, below_drewN HB.out _⟩
set_option maxHeartbeats 4000000 in
set_option maxRecDepth 100000 in
theorem at_bad {w : World} {A0 A1 : Option Addr} {c0 c1 : Nat} {S : List S76} {T : List S80} (hr0 : Kd.C k76 w A0 S.length S) (hc0 : S.length ≤ c0) (hr1 : Kd.C k80 w A1 T.length T) (hc1 : T.length ≤ c1) (a : Int) (hng : ¬ (Good S T ∧ (0 ≤ a ∧ a ≤ (S.length : Int) - 1))) :
    Calls Try.prog 32 #[.agg #[.slice A0 S.length c0, .slice A1 T.length c1], .int .i64 a] w fun e w' => e = .returned (.pointer none) ∧ Below w.heap.size w w' := by
  have hu31 := Try.underlying31
  have hu50 := Try.underlying50
  have HR0 := Aside0.mk hr0
  have HR1 := Aside0.mk hr1
  clear hr0 hr1
  have HB := Aside0.mk (Below.refl w.heap.size w)
  by_cases hg : Good S T
  · have hn := hg.n2
    have hn1 := hg.n1
    have H1 := Aside0.mk (show ¬ (0 ≤ a ∧ a ≤ (S.length : Int) - 1) from fun h => hng ⟨hg, h⟩)
    clear hng
    go_enter Try.func32, Try.ntmps32
    go_wp2_with (first
      | ((with_reducible refine gate_dst (N := 2) rfl ?_); refine box_event ?hg (N := 2) ?hd (cs := #[.slice A0 S.length c0, .slice A1 T.length c1]) (t := 31) ?hr ?_; (case hd => rfl); (case hg => rfl); (case hr => first | (go_simp; done) | (go_simp; rfl)); intro gc hgc w1 hbc hb_; have hcc0 := (blkc hbc 0).trans rfl; have hcc1 := (blkc hbc 1).trans rfl; have n_ := Aside0.mk (HB.out.trans hb_); clear HB; have HB := n_; clear n_ hbc hgc hb_)
      | (go_at_call 25; refine (tree_good hg (Kd.C_below HR0.out HB.out) hc0 (Kd.C_below HR1.out HB.out) hc1).mono ?_; rintro e w2 ⟨ad, cn, B, ch, rfl, hrd, hf, hb2⟩; have n_ := Aside0.mk (HB.out.trans (hb2.mono HB.out.size)); clear HB; have HB := n_; clear n_ hb2 hrd hf)
      | (go_at_call 26; refine (within_no _ H1.out).mono ?_; rintro e w4 ⟨rfl, q2, rfl⟩))
    go_ret
    exact ⟨rfl, below_drewN HB.out _⟩
  · have HG := Aside0.mk hg
    clear hng hg
    go_enter Try.func32, Try.ntmps32
    go_wp2_with (first
      | ((with_reducible refine gate_dst (N := 2) rfl ?_); refine box_event ?hg (N := 2) ?hd (cs := #[.slice A0 S.length c0, .slice A1 T.length c1]) (t := 31) ?hr ?_; (case hd => rfl); (case hg => rfl); (case hr => first | (go_simp; done) | (go_simp; rfl)); intro gc hgc w1 hbc hb_; have hcc0 := (blkc hbc 0).trans rfl; have hcc1 := (blkc hbc 1).trans rfl; have n_ := Aside0.mk (HB.out.trans hb_); clear HB; have HB := n_; clear n_ hbc hgc hb_)
      | (go_at_call 25; refine (tree_bad HG.out (Kd.C_below HR0.out HB.out) hc0 (Kd.C_below HR1.out HB.out) hc1).mono ?_; rintro e w2 ⟨cc, pp, rfl, hcz, hb2⟩; have n_ := Aside0.mk (HB.out.trans (hb2.mono HB.out.size)); clear HB; have HB := n_; clear n_ hb2))
    go_ret
    exact ⟨rfl, HB.out⟩
def Made (w w' : World) (v : Value) (l : List Nat) : Prop := w'.ownsRow w.heap.size 3 1 v l.length (nums l) ∧ Below w.heap.size w w'
def DrillIs (S : List S76) (T : List S80) (a : Int) (l : List Nat) : Prop :=
  (Good S T ∧ (0 ≤ a ∧ a ≤ (S.length : Int) - 1) ∧ l = down (iniS S) S.length (iniS S a.toNat)) ∨ (¬ (Good S T ∧ (0 ≤ a ∧ a ≤ (S.length : Int) - 1)) ∧ l = [])
theorem Good.down {S : List S76} {T : List S80} (hg : Good S T) : ∀ i, i < S.length → iniS S i < S.length ∧ (iniS S i < 0 ∨ i < iniS S i) := fun i hi => by
  rcases hg.ini i hi with ⟨_, h⟩ | ⟨_, h0, h1, h2⟩
  · exact ⟨by omega, Or.inl (by omega)⟩
  · have := (hg.par (iniS S i).toNat (by omega)).lt
    rw [h2] at this
    exact ⟨by omega, Or.inr (by omega)⟩
set_option maxHeartbeats 4000000 in
set_option maxRecDepth 100000 in
theorem Drill_calls {w : World} {A0 A1 : Option Addr} {c0 c1 : Nat} {S : List S76} {T : List S80} (hr0 : Kd.C k76 w A0 S.length S) (hc0 : S.length ≤ c0) (hr1 : Kd.C k80 w A1 T.length T) (hc1 : T.length ≤ c1) (a : Int) (l : List Nat) (h : DrillIs S T a l) :
    Calls Try.prog 18 #[.agg #[.slice A0 S.length c0, .slice A1 T.length c1], .int .i64 a] w fun e w' => ∃ v, e = .returned v ∧ Made w w' v l := by
  have hu31 := Try.underlying31
  have HR0 := Aside0.mk hr0
  have HR1 := Aside0.mk hr1
  have HB := Aside0.mk (Below.refl w.heap.size w)
  clear hr0 hr1
  rcases h with ⟨hg, ha, rfl⟩ | ⟨hng, rfl⟩
  · obtain ⟨a, rfl⟩ := Int.eq_ofNat_of_zero_le ha.1
    have ha2 : a < S.length := by omega
    clear ha
    have HI := Aside0.mk hg.down
    have hn := hg.n2
    rw [Int.toNat_natCast]
    have hul := down_len (iniS S) S.length (iniS S a)
    have HLT := Aside0.mk (down_lt (fun i hi => (hg.down i hi).1) S.length (iniS S a) (hg.down a ha2).1)
    go_enter Try.func18, Try.ntmps18
    go_wp2_with (first
      | ((with_reducible refine gate_dst (N := 2) rfl ?_); refine box_event ?hg (N := 2) ?hd (cs := #[.slice A0 S.length c0, .slice A1 T.length c1]) (t := 31) ?hr ?_; (case hd => rfl); (case hg => rfl); (case hr => first | (go_simp; done) | (go_simp; rfl)); intro gc hgc w1 hbc hb_; have hcc0 := (blkc hbc 0).trans rfl; have hcc1 := (blkc hbc 1).trans rfl; have n_ := Aside0.mk (HB.out.trans hb_); clear HB; have HB := n_; clear n_ hbc hgc hb_)
      | (go_at_call 32; refine (at_good hg (Kd.C_below HR0.out HB.out) hc0 (Kd.C_below HR1.out HB.out) hc1 a ha2).mono ?_; rintro e w2 ⟨B, ch, rfl, hf, hb2⟩; have HF := Aside0.mk hf; have n_ := Aside0.mk (HB.out.trans (hb2.mono HB.out.size)); clear HB; have HB := n_; clear n_ hf hb2)
      | (go_at_call 37; refine (drill_calls HF.out HI.out hn a ha2).mono ?_; rintro e w3 ⟨v3, rfl, ho3, hb3⟩; obtain ⟨A, c, rfl, hc, _, hr⟩ := rd_of_owns ho3; have HRD := Aside0.mk hr; have HF3 := Aside0.mk (HF.out.below hb3); have n_ := Aside0.mk (HB.out.trans (hb3.mono HB.out.size)); clear HB; have HB := n_; clear n_ hr hb3 ho3)
      | (go_at_call 31; refine (indexes_calls HF3.out HRD.out HLT.out (by omega)).mono ?_; rintro e w4 ⟨v, rfl, ho, hb4⟩; have HO := Aside0.mk (ho.mono HB.out.size); have n_ := Aside0.mk (HB.out.trans (hb4.mono HB.out.size)); clear HB; have HB := n_; clear n_ ho hb4))
    go_ret
    exact ⟨v, rfl, HO.out, HB.out⟩
  · have HNG := Aside0.mk hng
    clear hng
    go_enter Try.func18, Try.ntmps18
    go_wp2_with (first
      | ((with_reducible refine gate_dst (N := 2) rfl ?_); refine box_event ?hg (N := 2) ?hd (cs := #[.slice A0 S.length c0, .slice A1 T.length c1]) (t := 31) ?hr ?_; (case hd => rfl); (case hg => rfl); (case hr => first | (go_simp; done) | (go_simp; rfl)); intro gc hgc w1 hbc hb_; have hcc0 := (blkc hbc 0).trans rfl; have hcc1 := (blkc hbc 1).trans rfl; have n_ := Aside0.mk (HB.out.trans hb_); clear HB; have HB := n_; clear n_ hbc hgc hb_)
      | (go_at_call 32; refine (at_bad (Kd.C_below HR0.out HB.out) hc0 (Kd.C_below HR1.out HB.out) hc1 a HNG.out).mono ?_; rintro e w2 ⟨rfl, hb2⟩; have n_ := Aside0.mk (HB.out.trans (hb2.mono HB.out.size)); clear HB; have HB := n_; clear n_ hb2))
    go_ret
    exact ⟨_, rfl, World.ownsRow_nil _ _ _ _, HB.out⟩
end Go.Proofs.Ytolcdkanebopiaa.Tree
