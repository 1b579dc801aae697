/- Proved here: what impl's Domain gives. -/
import Derived.Test.YtolcdkanebopiaaRT4
namespace Go.Proofs.Ytolcdkanebopiaa.Tree
open Go.RowKit Go.Proofs.YtolcdkanebopiaaW.PrintWords Go.Proofs.YtolcdkanebopiaaW.PrintLast Go.Proofs.YtolcdkanebopiaaW.PrintMore Go.Proofs.Ytolcdkanebopiaa.PFnExactDomain
set_option linter.unusedVariables false
set_option linter.unusedSimpArgs false
theorem tree_good {w : World} {A0 A1 : Option Addr} {c0 c1 : Nat} {S : List S76} {T : List S80} (hg : Good S T) (hr0 : Kd.C k76 w A0 S.length S) (hc0 : S.length ≤ c0) (hr1 : Kd.C k80 w A1 T.length T) (hc1 : T.length ≤ c1) :
    Calls Try.prog 25 #[.agg #[.slice A0 S.length c0, .slice A1 T.length c1], .agg #[.int .i64 0, .int .i64 0, .int .i64 0, .int .i64 0]] w fun e w' => ∃ ad c B ch, e = .returned (.tuple #[.slice (some ad) S.length c, .int .i64 0, .int .i64 0]) ∧ Rd w' (some ad) (ptrs B (List.range S.length)) ∧ Fam w' S.length B (parS S) (iniS S) ch ∧ Below w.heap.size w w' := by
  refine (tree_calls S T hr0 hc0 hr1 hc1).mono ?_
  rintro e w' ⟨hb, ⟨_, A, c, B, ch, rfl, hr, hf⟩ | ⟨hng, _⟩⟩
  · obtain ⟨ad, rfl, _⟩ := rd_ptr hr (List.getElem?_range (show 0 < S.length from hg.n1))
    exact ⟨ad, c, B, ch, rfl, hr, hf, hb⟩
  · exact absurd hg hng
theorem tree_bad {w : World} {A0 A1 : Option Addr} {c0 c1 : Nat} {S : List S76} {T : List S80} (hg : ¬ Good S T) (hr0 : Kd.C k76 w A0 S.length S) (hc0 : S.length ≤ c0) (hr1 : Kd.C k80 w A1 T.length T) (hc1 : T.length ≤ c1) :
    Calls Try.prog 25 #[.agg #[.slice A0 S.length c0, .slice A1 T.length c1], .agg #[.int .i64 0, .int .i64 0, .int .i64 0, .int .i64 0]] w fun e w' => ∃ c p : Int, e = .returned (.tuple #[.slice none 0 0, .int .i64 c, .int .i64 p]) ∧ (c != 0) = true ∧ Below w.heap.size w w' := by
  refine (tree_calls S T hr0 hc0 hr1 hc1).mono ?_
  rintro e w' ⟨hb, ⟨hg2, _⟩ | ⟨_, c, p, hc, rfl⟩⟩
  · exact absurd hg2 hg
  · exact ⟨c, p, rfl, bne_iff_ne.2 hc, hb⟩
end Go.Proofs.Ytolcdkanebopiaa.Tree
