/- Proved here: what impl's Domain gives. -/
import Derived.Test.YtolcdkanebopiaaDT4
namespace Go.Proofs.Ytolcdkanebopiaa.Tree
open Go.RowKit Go.Proofs.YtolcdkanebopiaaW.PrintWords Go.Proofs.YtolcdkanebopiaaW.PrintLast Go.Proofs.YtolcdkanebopiaaW.PrintMore Go.Proofs.Ytolcdkanebopiaa.PFnExactDomain
set_option linter.unusedVariables false
set_option linter.unusedSimpArgs false
theorem tree_good {w : World} {A0 A1 : Option Addr} {c0 c1 : Nat} {S : List S76} {T : List S80} (hg : Good S T) (hr0 : Kd.C k76 w A0 S.length S) (hc0 : S.length ≤ c0) (hr1 : Kd.C k80 w A1 T.length T) (hc1 : T.length ≤ c1) :
    Calls Try.prog 25 #[.agg #[.slice A0 S.length c0, .slice A1 T.length c1], .agg #[.int .i64 0, .int .i64 0, .int .i64 0, .int .i64 0]] w fun e w' => ∃ ad c B ch, e = .returned (.tuple #[.slice (some ad) S.length c, .int .i64 0, .int .i64 0]) ∧ Rd w' (some ad) (ptrs B (List.range S.length)) ∧ Fam w' S.length B (parS S) (iniS S) ch ∧ Below w.heap.size w w' := by
  refine (tree_calls S T hr0 hc0 hr1 hc1).mono ?_
  rintro e w' ⟨hb, ⟨_, A, c, B, ch, rfl, hr, hf⟩ | ⟨hng, _⟩⟩
  · obtain ⟨ad, rfl, _⟩ := rd_ptr hr (List.getElem?_range (show 0 < S.length from hg.n1))
    exact ⟨ad, c, B, ch, rfl, hr, hf, hb⟩
  · exact absurd hg hng
theorem tree_bad {w : World} {A0 A1 : Option Addr} {c0 c1 : Nat} {S : List S76} {T : List S80} (hg : ¬ Good S T) (hr0 : Kd.C k76 w A0 S.length S) (hc0 : S.length ≤ c0) (hr1 : Kd.C k80 w A1 T.length T) (hc1 : T.length ≤ c1) :
    Calls Try.prog 25 #[.agg #[.slice A0 S.length c0, .slice A1 T.length c1], .agg #[.int .i64 0, .int .i64 0, .int .i64 0, .int .i64 0]] w fun e w' => ∃ c p : Int, e = .returned (.tuple #[.slice none 0 0, .int .i64 c, .int .i64 p]) ∧ (c != 0) = true ∧ Below w.heap.size w w' := by
  refine (tree_calls S T hr0 hc0 hr1 hc1).mono ?_
  rintro e w' ⟨hb, ⟨hg2, _⟩ | ⟨_, c, p, hc, rfl⟩⟩
  · exact absurd hg2 hg
  · exact ⟨c, p, rfl, bne_iff_ne.2 hc, hb⟩
theorem domF_mem {pb : List Nat} {d : Nat} : ∀ {pa : List Nat}, domF pb pa = some d → d ∈ pa
  | [], h => by simp [domF] at h
  | x :: r, h => by
    rw [domF] at h
    split at h
    · obtain rfl := Option.some.inj h; exact List.mem_cons_self
    · exact List.mem_cons_of_mem _ (domF_mem h)
def DomIs (S : List S76) (T : List S80) (a b r : Int) : Prop :=
  (Good S T ∧ (0 ≤ a ∧ a ≤ (S.length : Int) - 1) ∧ (0 ≤ b ∧ b ≤ (S.length : Int) - 1) ∧ r = match domF ((up (parS S) b.toNat).drop 1) ((up (parS S) a.toNat).drop 1) with | some d => (d : Int) | none => -1) ∨
  (¬ (Good S T ∧ (0 ≤ a ∧ a ≤ (S.length : Int) - 1) ∧ (0 ≤ b ∧ b ≤ (S.length : Int) - 1)) ∧ r = -2)
set_option maxHeartbeats 4000000 in
set_option maxRecDepth 100000 in
theorem Domain_good {w : World} {A0 A1 : Option Addr} {c0 c1 : Nat} {S : List S76} {T : List S80} (hg : Good S T) (hr0 : Kd.C k76 w A0 S.length S) (hc0 : S.length ≤ c0) (hr1 : Kd.C k80 w A1 T.length T) (hc1 : T.length ≤ c1) (a b : Nat) (ha : a < S.length) (hb : b < S.length) (r : Int)
    (hr : r = match domF ((up (parS S) b).drop 1) ((up (parS S) a).drop 1) with | some d => (d : Int) | none => -1) :
    Calls Try.prog 9 #[.agg #[.slice A0 S.length c0, .slice A1 T.length c1], .int .i64 a, .int .i64 b] w fun e w' => e = .returned (.int .i64 r) ∧ Below w.heap.size w w' := by
  have hu31 := Try.underlying31
  have hu50 := Try.underlying50
  have hu55 := Try.underlying55
  have HR0 := Aside0.mk hr0
  have HR1 := Aside0.mk hr1
  have HR := Aside0.mk hr
  clear hr0 hr1 hr
  have HB := Aside0.mk (Below.refl w.heap.size w)
  have HP := Aside0.mk (show ∀ i, i < S.length → parS S i < i from fun i hi => (hg.par i hi).lt)
  have hn := hg.n2
  go_enter Try.func9, Try.ntmps9
  go_wp2_with (first
    | ((with_reducible refine gate_dst (N := 3) rfl ?_); refine box_event ?hg (N := 3) ?hd (cs := #[.slice A0 S.length c0, .slice A1 T.length c1]) (t := 31) ?hr ?_; (case hd => rfl); (case hg => rfl); (case hr => first | (go_simp; done) | (go_simp; rfl)); intro gc hgc w1 hbc hb_; have hcc0 := (blkc hbc 0).trans rfl; have hcc1 := (blkc hbc 1).trans rfl; have n_ := Aside0.mk (HB.out.trans hb_); clear HB; have HB := n_; clear n_ hbc hgc hb_)
    | (go_at_call 25; refine (tree_good hg (Kd.C_below HR0.out HB.out) hc0 (Kd.C_below HR1.out HB.out) hc1).mono ?_; rintro e w2 ⟨ad, cn, B, ch, rfl, hrd, hf, hb2⟩; have HRD := Aside0.mk hrd; have HF := Aside0.mk hf; have n_ := Aside0.mk (HB.out.trans (hb2.mono HB.out.size)); clear HB; have HB := n_; clear n_ hb2 hrd hf; obtain ⟨ada, ea, hxa⟩ := rd_ptr HRD.out (List.getElem?_range ha); cases ea; obtain ⟨adb, eb, hxb⟩ := rd_ptr HRD.out (List.getElem?_range hb); cases eb)
    | (go_at_call 26; refine (within_yes _ (by omega) (by omega)).mono ?_; rintro e w3 ⟨rfl, q1, rfl⟩))
  generalize e5 : w2.drewN _ = w5
  have hxa5 : w5.cell? (ad.add a) = some (.pointer (some ⟨B a, 0, none⟩)) := by rw [← e5]; exact hxa
  have hxb5 : w5.cell? (ad.add b) = some (.pointer (some ⟨B b, 0, none⟩)) := by rw [← e5]; exact hxb
  have HF5 := Aside0.mk (show Fam w5 S.length B (parS S) (iniS S) ch from by rw [← e5]; exact HF.out)
  have HB5 := Aside0.mk (show Below w.heap.size w w5 from by rw [← e5]; exact below_drewN HB.out _)
  clear hxa hxb e5 HF HB HRD hcc0 hcc1
  obtain ⟨R, hR⟩ : ∃ R, domF ((up (parS S) b).drop 1) ((up (parS S) a).drop 1) = R := ⟨_, rfl⟩
  have hr2 := HR.out
  rw [hR] at hr2
  have HRR := Aside0.mk hR
  cases R with
  | none =>
    have HR2 := Aside0.mk hr2
    clear hr2 hR HR
    go_region_with (go_at_call 27; refine (domain_calls (w := w5.drew) (ini := iniS S) (ch := ch) HF5.out HP.out hn a b ha hb).mono ?_; rintro e w6 ⟨rfl, hb6⟩; rw [HRR.out, show ptrO B none = none from rfl]; have HB6 := Aside0.mk (HB5.out.drew.trans (hb6.mono HB5.out.size)); clear hb6)
    all_goals
      go_wp2_with fail
      go_ret
      exact ⟨by rw [HR2.out]; rfl, HB6.out⟩
  | some d =>
    have hdn : d < S.length := by have := domF_mem hR; have := up_le (parS S) a a (Nat.le_refl _) d (List.mem_of_mem_drop this); omega
    have HR2 := Aside0.mk hr2
    clear hr2 hR HR
    go_region_with (go_at_call 27; refine (domain_calls (w := w5.drew) (ini := iniS S) (ch := ch) HF5.out HP.out hn a b ha hb).mono ?_; rintro e w6 ⟨rfl, hb6⟩; rw [HRR.out, show ptrO B (some d) = some ⟨B d, 0, none⟩ from rfl]; have hc6 := ((HF5.out.below (((Below.refl w5.heap.size w5).drew).trans hb6)).c0 hdn); have HB6 := Aside0.mk (HB5.out.drew.trans (hb6.mono HB5.out.size)); clear hb6)
    all_goals
      go_wp2_with fail
      go_ret
      exact ⟨by rw [HR2.out]; rfl, HB6.out⟩
set_option maxHeartbeats 4000000 in
set_option maxRecDepth 100000 in
theorem Domain_bad {w : World} {A0 A1 : Option Addr} {c0 c1 : Nat} {S : List S76} {T : List S80} (hr0 : Kd.C k76 w A0 S.length S) (hc0 : S.length ≤ c0) (hr1 : Kd.C k80 w A1 T.length T) (hc1 : T.length ≤ c1) (a b : Int)
    (hng : ¬ (Good S T ∧ (0 ≤ a ∧ a ≤ (S.length : Int) - 1) ∧ (0 ≤ b ∧ b ≤ (S.length : Int) - 1))) :
    Calls Try.prog 9 #[.agg #[.slice A0 S.length c0, .slice A1 T.length c1], .int .i64 a, .int .i64 b] w fun e w' => e = .returned (.int .i64 (-2)) ∧ Below w.heap.size w w' := by
  have hu31 := Try.underlying31
  have hu50 := Try.underlying50
  have HR0 := Aside0.mk hr0
  have HR1 := Aside0.mk hr1
  clear hr0 hr1
  have HB := Aside0.mk (Below.refl w.heap.size w)
  by_cases hg : Good S T
  · have hn := hg.n2
    have hn1 := hg.n1
    by_cases h1 : 0 ≤ a ∧ a ≤ (S.length : Int) - 1
    · have H2 := Aside0.mk (show ¬ (0 ≤ b ∧ b ≤ (S.length : Int) - 1) from fun h => hng ⟨hg, h1, h⟩)
      obtain ⟨h1a, h1b⟩ := h1
      clear hng
      go_enter Try.func9, Try.ntmps9
      go_wp2_with (first
        | ((with_reducible refine gate_dst (N := 3) rfl ?_); refine box_event ?hg (N := 3) ?hd (cs := #[.slice A0 S.length c0, .slice A1 T.length c1]) (t := 31) ?hr ?_; (case hd => rfl); (case hg => rfl); (case hr => first | (go_simp; done) | (go_simp; rfl)); intro gc hgc w1 hbc hb_; have hcc0 := (blkc hbc 0).trans rfl; have hcc1 := (blkc hbc 1).trans rfl; have n_ := Aside0.mk (HB.out.trans hb_); clear HB; have HB := n_; clear n_ hbc hgc hb_)
        | (go_at_call 25; refine (tree_good hg (Kd.C_below HR0.out HB.out) hc0 (Kd.C_below HR1.out HB.out) hc1).mono ?_; rintro e w2 ⟨ad, cn, B, ch, rfl, hrd, hf, hb2⟩; have n_ := Aside0.mk (HB.out.trans (hb2.mono HB.out.size)); clear HB; have HB := n_; clear n_ hb2 hrd hf)
        | (go_at_call_of 26 b; refine (within_no _ H2.out).mono ?_; rintro e w4 ⟨rfl, q2, rfl⟩)
        | (go_at_call_of 26 a; refine (within_yes _ h1a h1b).mono ?_; rintro e w3 ⟨rfl, q1, rfl⟩))
      go_ret
      exact ⟨rfl, below_drewN HB.out _⟩
    · have H1 := Aside0.mk h1
      clear hng h1
      go_enter Try.func9, Try.ntmps9
      go_wp2_with (first
        | ((with_reducible refine gate_dst (N := 3) rfl ?_); refine box_event ?hg (N := 3) ?hd (cs := #[.slice A0 S.length c0, .slice A1 T.length c1]) (t := 31) ?hr ?_; (case hd => rfl); (case hg => rfl); (case hr => first | (go_simp; done) | (go_simp; rfl)); intro gc hgc w1 hbc hb_; have hcc0 := (blkc hbc 0).trans rfl; have hcc1 := (blkc hbc 1).trans rfl; have n_ := Aside0.mk (HB.out.trans hb_); clear HB; have HB := n_; clear n_ hbc hgc hb_)
        | (go_at_call 25; refine (tree_good hg (Kd.C_below HR0.out HB.out) hc0 (Kd.C_below HR1.out HB.out) hc1).mono ?_; rintro e w2 ⟨ad, cn, B, ch, rfl, hrd, hf, hb2⟩; have n_ := Aside0.mk (HB.out.trans (hb2.mono HB.out.size)); clear HB; have HB := n_; clear n_ hb2 hrd hf)
        | (go_at_call 26; refine (within_no _ H1.out).mono ?_; rintro e w4 ⟨rfl, q2, rfl⟩))
      go_ret
      exact ⟨rfl, below_drewN HB.out _⟩
  · have HG := Aside0.mk hg
    clear hng hg
    go_enter Try.func9, Try.ntmps9
    go_wp2_with (first
      | ((with_reducible refine gate_dst (N := 3) rfl ?_); refine box_event ?hg (N := 3) ?hd (cs := #[.slice A0 S.length c0, .slice A1 T.length c1]) (t := 31) ?hr ?_; (case hd => rfl); (case hg => rfl); (case hr => first | (go_simp; done) | (go_simp; rfl)); intro gc hgc w1 hbc hb_; have hcc0 := (blkc hbc 0).trans rfl; have hcc1 := (blkc hbc 1).trans rfl; have n_ := Aside0.mk (HB.out.trans hb_); clear HB; have HB := n_; clear n_ hbc hgc hb_)
      | (go_at_call 25; refine (tree_bad HG.out (Kd.C_below HR0.out HB.out) hc0 (Kd.C_below HR1.out HB.out) hc1).mono ?_; rintro e w2 ⟨cc, pp, rfl, hcz, hb2⟩; have n_ := Aside0.mk (HB.out.trans (hb2.mono HB.out.size)); clear HB; have HB := n_; clear n_ hb2))
    go_ret
    exact ⟨rfl, HB.out⟩
theorem Domain_calls {w : World} {A0 A1 : Option Addr} {c0 c1 : Nat} {S : List S76} {T : List S80} (hr0 : Kd.C k76 w A0 S.length S) (hc0 : S.length ≤ c0) (hr1 : Kd.C k80 w A1 T.length T) (hc1 : T.length ≤ c1) (a b r : Int) (h : DomIs S T a b r) :
    Calls Try.prog 9 #[.agg #[.slice A0 S.length c0, .slice A1 T.length c1], .int .i64 a, .int .i64 b] w fun e w' => e = .returned (.int .i64 r) ∧ Below w.heap.size w w' := by
  rcases h with ⟨hg, ha, hb, hr⟩ | ⟨hng, rfl⟩
  · obtain ⟨a, rfl⟩ := Int.eq_ofNat_of_zero_le ha.1
    obtain ⟨b, rfl⟩ := Int.eq_ofNat_of_zero_le hb.1
    exact Domain_good hg hr0 hc0 hr1 hc1 a b (by omega) (by omega) r hr
  · exact Domain_bad hr0 hc0 hr1 hc1 a b hng
end Go.Proofs.Ytolcdkanebopiaa.Tree
