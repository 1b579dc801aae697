/- Proved here: what impl's Ancestors and Drill give. -/
import Derived.Test.YtolcdkanebopiaaAA1
import Derived.Deep.Onto
namespace Go.Proofs.Ytolcdkanebopiaa.Tree
open Go.RowKit Go.Proofs.YtolcdkanebopiaaW.PrintWords Go.Proofs.YtolcdkanebopiaaW.PrintLast Go.Proofs.YtolcdkanebopiaaW.PrintMore Go.Proofs.Ytolcdkanebopiaa.PFnExactDomain
set_option linter.unusedVariables false
set_option linter.unusedSimpArgs false
set_option maxHeartbeats 4000000 in
set_option maxRecDepth 100000 in
theorem at_good {w : World} {A0 A1 : Option Addr} {c0 c1 : Nat} {S : List S76} {T : List S80} (hg : Good S T) (hr0 : Kd.C k76 w A0 S.length S) (hc0 : S.length ≤ c0) (hr1 : Kd.C k80 w A1 T.length T) (hc1 : T.length ≤ c1) (a : Nat) (ha : a < S.length) :
    Calls Try.prog 32 #[.agg #[.slice A0 S.length c0, .slice A1 T.length c1], .int .i64 a] w fun e w' => ∃ B ch, e = .returned (.pointer (some ⟨B a, 0, none⟩)) ∧ Fam w' S.length B (parS S) (iniS S) ch ∧ Below w.heap.size w w' := by
  have hu31 := Try.underlying31
  have hu50 := Try.underlying50
  have HR0 := Aside0.mk hr0
  have HR1 := Aside0.mk hr1
  clear hr0 hr1
  have HB := Aside0.mk (Below.refl w.heap.size w)
  have hn := hg.n2
  go_enter Try.func32, Try.ntmps32
  go_wp2_with (first
    | ((with_reducible refine gate_dst (N := 2) rfl ?_); refine box_event ?hg (N := 2) ?hd (cs := #[.slice A0 S.length c0, .slice A1 T.length c1]) (t := 31) ?hr ?_; (case hd => rfl); (case hg => rfl); (case hr => first | (go_simp; done) | (go_simp; rfl)); intro gc hgc w1 hbc hb_; have hcc0 := (blkc hbc 0).trans rfl; have hcc1 := (blkc hbc 1).trans rfl; have n_ := Aside0.mk (HB.out.trans hb_); clear HB; have HB := n_; clear n_ hbc hgc hb_)
    | (go_at_call 25; refine (tree_good hg (Kd.C_below HR0.out HB.out) hc0 (Kd.C_below HR1.out HB.out) hc1).mono ?_; rintro e w2 ⟨ad, cn, B, ch, rfl, hrd, hf, hb2⟩; have HRD := Aside0.mk hrd; have HF := Aside0.mk hf; have n_ := Aside0.mk (HB.out.trans (hb2.mono HB.out.size)); clear HB; have HB := n_; clear n_ hb2 hrd hf; obtain ⟨ada, ea, hxa⟩ := rd_ptr HRD.out (List.getElem?_range ha); cases ea)
    | (go_at_call 26; refine (within_yes _ (by omega) (by omega)).mono ?_; rintro e w3 ⟨rfl, q1, rfl⟩))
  go_ret
  exact ⟨B, ch, rfl, HF.out, below_drewN HB.out _⟩
set_option maxHeartbeats 4000000 in
set_option maxRecDepth 100000 in
theorem at_bad {w : World} {A0 A1 : Option Addr} {c0 c1 : Nat} {S : List S76} {T : List S80} (hr0 : Kd.C k76 w A0 S.length S) (hc0 : S.length ≤ c0) (hr1 : Kd.C k80 w A1 T.length T) (hc1 : T.length ≤ c1) (a : Int) (hng : ¬ (Good S T ∧ (0 ≤ a ∧ a ≤ (S.length : Int) - 1))) :
    Calls Try.prog 32 #[.agg #[.slice A0 S.length c0, .slice A1 T.length c1], .int .i64 a] w fun e w' => e = .returned (.pointer none) ∧ Below w.heap.size w w' := by
  have hu31 := Try.underlying31
  have hu50 := Try.underlying50
  have HR0 := Aside0.mk hr0
  have HR1 := Aside0.mk hr1
  clear hr0 hr1
  have HB := Aside0.mk (Below.refl w.heap.size w)
  by_cases hg : Good S T
  · have hn := hg.n2
    have hn1 := hg.n1
    have H1 := Aside0.mk (show ¬ (0 ≤ a ∧ a ≤ (S.length : Int) - 1) from fun h => hng ⟨hg, h⟩)
    clear hng
    go_enter Try.func32, Try.ntmps32
    go_wp2_with (first
      | ((with_reducible refine gate_dst (N := 2) rfl ?_); refine box_event ?hg (N := 2) ?hd (cs := #[.slice A0 S.length c0, .slice A1 T.length c1]) (t := 31) ?hr ?_; (case hd => rfl); (case hg => rfl); (case hr => first | (go_simp; done) | (go_simp; rfl)); intro gc hgc w1 hbc hb_; have hcc0 := (blkc hbc 0).trans rfl; have hcc1 := (blkc hbc 1).trans rfl; have n_ := Aside0.mk (HB.out.trans hb_); clear HB; have HB := n_; clear n_ hbc hgc hb_)
      | (go_at_call 25; refine (tree_good hg (Kd.C_below HR0.out HB.out) hc0 (Kd.C_below HR1.out HB.out) hc1).mono ?_; rintro e w2 ⟨ad, cn, B, ch, rfl, hrd, hf, hb2⟩; have n_ := Aside0.mk (HB.out.trans (hb2.mono HB.out.size)); clear HB; have HB := n_; clear n_ hb2 hrd hf)
      | (go_at_call 26; refine (within_no _ H1.out).mono ?_; rintro e w4 ⟨rfl, q2, rfl⟩))
    go_ret
    exact ⟨rfl, below_drewN HB.out _⟩
  · have HG := Aside0.mk hg
    clear hng hg
    go_enter Try.func32, Try.ntmps32
    go_wp2_with (first
      | ((with_reducible refine gate_dst (N := 2) rfl ?_); refine box_event ?hg (N := 2) ?hd (cs := #[.slice A0 S.length c0, .slice A1 T.length c1]) (t := 31) ?hr ?_; (case hd => rfl); (case hg => rfl); (case hr => first | (go_simp; done) | (go_simp; rfl)); intro gc hgc w1 hbc hb_; have hcc0 := (blkc hbc 0).trans rfl; have hcc1 := (blkc hbc 1).trans rfl; have n_ := Aside0.mk (HB.out.trans hb_); clear HB; have HB := n_; clear n_ hbc hgc hb_)
      | (go_at_call 25; refine (tree_bad HG.out (Kd.C_below HR0.out HB.out) hc0 (Kd.C_below HR1.out HB.out) hc1).mono ?_; rintro e w2 ⟨cc, pp, rfl, hcz, hb2⟩; have n_ := Aside0.mk (HB.out.trans (hb2.mono HB.out.size)); clear HB; have HB := n_; clear n_ hb2))
    go_ret
    exact ⟨rfl, HB.out⟩
def Made (w w' : World) (v : Value) (l : List Nat) : Prop := w'.ownsRow w.heap.size 3 1 v l.length (nums l) ∧ Below w.heap.size w w'
def AncIs (S : List S76) (T : List S80) (a : Int) (l : List Nat) : Prop :=
  (Good S T ∧ (0 ≤ a ∧ a ≤ (S.length : Int) - 1) ∧ l = up (parS S) a.toNat) ∨ (¬ (Good S T ∧ (0 ≤ a ∧ a ≤ (S.length : Int) - 1)) ∧ l = [])
theorem path_nil {w : World} : Calls Try.prog 33 #[.pointer none] w fun e w' => ∃ A c, e = .returned (.slice A 0 c) ∧ Below w.heap.size w w' := by
  have h := path_calls (w := w) (n := 0) (B := fun _ => 0) (par := fun _ => -1) (ini := fun _ => -1) (ch := fun _ => undef) (fun i hi => absurd hi (by omega)) (fun i hi => absurd hi (by omega)) (by omega) (-1) (by omega)
  rw [pto_neg (by omega), ups_neg (by omega)] at h
  refine h.mono ?_
  rintro e w' ⟨v, rfl, ho, hb⟩
  obtain ⟨A, c, rfl, _⟩ := rd_of_owns ho
  exact ⟨A, c, rfl, hb⟩
theorem indexes_nil {w : World} {A : Option Addr} {c : Nat} : Calls Try.prog 31 #[.slice A 0 c] w fun e w' => ∃ v, e = .returned v ∧ w'.ownsRow w.heap.size 3 1 v 0 [] ∧ Below w.heap.size w w' :=
  indexes_calls (w := w) (N := 0) (B := fun _ => 0) (par := fun _ => -1) (ini := fun _ => -1) (ch := fun _ => undef) (l := []) (fun i hi => absurd hi (by omega)) (fun i u hu => by simp [ptrs] at hu) (fun x hx => by simp at hx) (by simp)
set_option maxHeartbeats 4000000 in
set_option maxRecDepth 100000 in
theorem Ancestors_calls {w : World} {A0 A1 : Option Addr} {c0 c1 : Nat} {S : List S76} {T : List S80} (hr0 : Kd.C k76 w A0 S.length S) (hc0 : S.length ≤ c0) (hr1 : Kd.C k80 w A1 T.length T) (hc1 : T.length ≤ c1) (a : Int) (l : List Nat) (h : AncIs S T a l) :
    Calls Try.prog 12 #[.agg #[.slice A0 S.length c0, .slice A1 T.length c1], .int .i64 a] w fun e w' => ∃ v, e = .returned v ∧ Made w w' v l := by
  have hu31 := Try.underlying31
  have HR0 := Aside0.mk hr0
  have HR1 := Aside0.mk hr1
  have HB := Aside0.mk (Below.refl w.heap.size w)
  clear hr0 hr1
  rcases h with ⟨hg, ha, rfl⟩ | ⟨hng, rfl⟩
  · obtain ⟨a, rfl⟩ := Int.eq_ofNat_of_zero_le ha.1
    have ha2 : a < S.length := by omega
    clear ha
    have HP := Aside0.mk (show ∀ i, i < S.length → parS S i < i from fun i hi => (hg.par i hi).lt)
    have hn := hg.n2
    have hul := up_len (parS S) a a (Nat.le_refl _)
    rw [Int.toNat_natCast]
    go_enter Try.func12, Try.ntmps12
    go_wp2_with (first
      | ((with_reducible refine gate_dst (N := 2) rfl ?_); refine box_event ?hg (N := 2) ?hd (cs := #[.slice A0 S.length c0, .slice A1 T.length c1]) (t := 31) ?hr ?_; (case hd => rfl); (case hg => rfl); (case hr => first | (go_simp; done) | (go_simp; rfl)); intro gc hgc w1 hbc hb_; have hcc0 := (blkc hbc 0).trans rfl; have hcc1 := (blkc hbc 1).trans rfl; have n_ := Aside0.mk (HB.out.trans hb_); clear HB; have HB := n_; clear n_ hbc hgc hb_)
      | (go_at_call 32; refine (at_good hg (Kd.C_below HR0.out HB.out) hc0 (Kd.C_below HR1.out HB.out) hc1 a ha2).mono ?_; rintro e w2 ⟨B, ch, rfl, hf, hb2⟩; have HF := Aside0.mk hf; have n_ := Aside0.mk (HB.out.trans (hb2.mono HB.out.size)); clear HB; have HB := n_; clear n_ hf hb2)
      | (go_at_call 33; refine (path_read HF.out HP.out hn a ha2).mono ?_; rintro e w3 ⟨A, c, rfl, hc, hr, hb3⟩; have HRD := Aside0.mk hr; have HF3 := Aside0.mk (HF.out.below hb3); have n_ := Aside0.mk (HB.out.trans (hb3.mono HB.out.size)); clear HB; have HB := n_; clear n_ hr hb3)
      | (go_at_call 31; refine (indexes_calls HF3.out HRD.out (fun x hx => by have := up_le (parS S) a a (Nat.le_refl _) x hx; omega) (by omega)).mono ?_; rintro e w4 ⟨v, rfl, ho, hb4⟩; have HO := Aside0.mk (ho.mono HB.out.size); have n_ := Aside0.mk (HB.out.trans (hb4.mono HB.out.size)); clear HB; have HB := n_; clear n_ ho hb4))
    go_ret
    exact ⟨v, rfl, HO.out, HB.out⟩
  · have HNG := Aside0.mk hng
    clear hng
    go_enter Try.func12, Try.ntmps12
    go_wp2_with (first
      | ((with_reducible refine gate_dst (N := 2) rfl ?_); refine box_event ?hg (N := 2) ?hd (cs := #[.slice A0 S.length c0, .slice A1 T.length c1]) (t := 31) ?hr ?_; (case hd => rfl); (case hg => rfl); (case hr => first | (go_simp; done) | (go_simp; rfl)); intro gc hgc w1 hbc hb_; have hcc0 := (blkc hbc 0).trans rfl; have hcc1 := (blkc hbc 1).trans rfl; have n_ := Aside0.mk (HB.out.trans hb_); clear HB; have HB := n_; clear n_ hbc hgc hb_)
      | (go_at_call 32; refine (at_bad (Kd.C_below HR0.out HB.out) hc0 (Kd.C_below HR1.out HB.out) hc1 a HNG.out).mono ?_; rintro e w2 ⟨rfl, hb2⟩; have n_ := Aside0.mk (HB.out.trans (hb2.mono HB.out.size)); clear HB; have HB := n_; clear n_ hb2)
      | (go_at_call 33; refine path_nil.mono ?_; rintro e w3 ⟨A, c, rfl, hb3⟩; have n_ := Aside0.mk (HB.out.trans (hb3.mono HB.out.size)); clear HB; have HB := n_; clear n_ hb3)
      | (go_at_call 31; refine indexes_nil.mono ?_; rintro e w4 ⟨v, rfl, ho, hb4⟩; have HO := Aside0.mk (ho.mono HB.out.size); have n_ := Aside0.mk (HB.out.trans (hb4.mono HB.out.size)); clear HB; have HB := n_; clear n_ ho hb4))
    go_ret
    exact ⟨v, rfl, HO.out, HB.out⟩
end Go.Proofs.Ytolcdkanebopiaa.Tree
