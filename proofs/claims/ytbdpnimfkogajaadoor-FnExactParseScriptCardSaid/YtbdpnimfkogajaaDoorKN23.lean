/- Proved: laws.FnExactParseScript answers true and leaves its text as it was, for every text, the listed package variables tied to the program's text: the program's ParseScript returns what the reference's returns, for all arguments; no condition. -/
import Derived.Test.YtbdpnimfkogajaaDoorKN22
import Derived.Test.YtbdpnimfkogajaaDoorTie
import Derived.Test.YtbdpnimfkogajaaDoorCards
import Derived.SevenTiedAt
namespace Go.Proofs.YtbdpnimfkogajaaDoor
open Go
theorem card_holds : Rows.FnExactParseScriptCardSaid :=
  Claim7.holds_tied_plain_at .later [] [.data, .data, .data, .data, .handle, .sentinel, .sentinel, .sentinel, .pinned] true (true, "bf645f4d4cbf06b3530108c02b133ebe54747503ddf12f5d3b3482154a0d7074") true
    Txt.row_holds (fun _ h => by cases h) (by kernel_rfl) (fun _ h => by cases h) fnExactParseScript_row_tie rfl ⟨rfl, rfl⟩ (by kernel_rfl) rfl
    (fun f fn hf hfn => by
      obtain rfl : f = 3 := Option.some.inj ((show Tryd.prog.funcNamed "loop.example/s0063/laws.FnExactParseScript" = some 3 by kernel_rfl).symm.trans hf) |>.symm
      obtain rfl : fn = Tryd.f3 := (Option.some.inj (Tryd.func3.symm.trans hfn)).symm
      exact ⟨by kernel_rfl, fun j t ht => by
        rw [Tryd.params3] at ht
        have h9 : t = 9 := by
          rcases j with _ | j
          · simpa using ht.symm
          · simp at ht
        subst h9
        exact (show Tryd.prog.wantsStandIn 9 = false by kernel_rfl)⟩)
    (by kernel_rfl)
#print axioms card_holds
end Go.Proofs.YtbdpnimfkogajaaDoor
