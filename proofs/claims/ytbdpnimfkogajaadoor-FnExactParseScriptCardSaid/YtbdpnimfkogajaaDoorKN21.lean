/- Proved: laws.FnExactParseScript answers true and leaves its text as it was, for every text; no condition but the listed package variables as the program lays them. -/
import Derived.Test.YtbdpnimfkogajaaDoorRows
import Derived.Test.YtbdpnimfkogajaaDoorKN20
import Derived.ProofKit
import Derived.OpenShut
import Derived.LaidMore
import Derived.LaidHandle
import Derived.Lay
import Derived.Stop.LaidErr
import Derived.Stop.Joined
namespace Go.Proofs.YtbdpnimfkogajaaDoor.Txt
open Go.ChangeShapes Go.WideShapes Go.ChangeAt Go.RowKit
set_option linter.unusedVariables false
theorem own : ownKnob Tryd.prog.godebug = none := by kernel_rfl
theorem gWrong : Tryd.prog.globalNamed "loop.example/s0063/impl.errWrong" = some 0 := by kernel_rfl
theorem gType : Tryd.prog.globalNamed "errors.errorType" = some 1 := by kernel_rfl
theorem gSyntax : Tryd.prog.globalNamed "strconv.ErrSyntax" = some 5 := by kernel_rfl
theorem gRange : Tryd.prog.globalNamed "strconv.ErrRange" = some 6 := by kernel_rfl
theorem tWrong : (Tryd.prog.globals[0]?).map (·.type) = some 39 := by kernel_rfl
theorem tSyntax : (Tryd.prog.globals[5]?).map (·.type) = some 39 := by kernel_rfl
theorem tRange : (Tryd.prog.globals[6]?).map (·.type) = some 39 := by kernel_rfl
theorem cells127 : Tryd.prog.cellsOf 127 = 1 := by kernel_rfl
theorem cells9 : Tryd.prog.cellsOf 9 = 1 := by kernel_rfl
theorem star : "*" ++ "errors.errorString" = "*errors.errorString" := by decide
theorem row125 (u : TypeId) (h : Tryd.prog.typeName? 3 u = some "*errors.errorString") : u = 125 :=
  typeName_ptr_named (nm := "errors.errorString") (by rw [star]; kernel_rfl) (by kernel_rfl) (by decide) u (by rw [star]; exact h)
theorem rtype87 : (Tryd.prog.cutTypes.find? (·.1 == "internal/reflectlite.rtype")).map (·.2) = some 87 := by kernel_rfl
theorem oneRow : ((List.range 170).filter fun t => Tryd.prog.rowNamed t [101, 114, 114, 111, 114]) = [39] := by kernel_rfl
theorem typesSize : Tryd.prog.types.size = 170 := by kernel_rfl
abbrev L8 : List (String × DataW Unit) := [("math/bits.deBruijn32tab", Rows.laid_math_bits_deBruijn32tab), ("math/bits.deBruijn64tab", Rows.laid_math_bits_deBruijn64tab), ("internal/strconv.uint64pow10", Rows.laid_internal_strconv_uint64pow10), ("unicode/utf8.acceptRanges", Rows.laid_unicode_utf8_acceptRanges), ("strconv.ErrRange", Rows.laid_strconv_ErrRange), ("strconv.ErrSyntax", Rows.laid_strconv_ErrSyntax), ("loop.example/s0063/impl.errWrong", Rows.laid_loop_example_s0063_impl_errWrong), ("unicode/utf8.first", Rows.laid_unicode_utf8_first)]
abbrev H1 : List (String × DataW Unit) := [("errors.errorType", Rows.laid_errors_errorType)]
theorem laid_parts {W : World} (h : laidMetH Tryd.prog Rows.fnExactParseScriptRow.laid W) : laidMet Tryd.prog L8 W ∧ handlesMet Tryd.prog H1 W := h
theorem type_of_laid {W : World} (h : handlesMet Tryd.prog H1 W) : TypeV W := by
  obtain ⟨name, u, ty, e1, e2, e3, e4, e5⟩ := h _ (List.mem_singleton.2 rfl)
  have en : name = [101, 114, 114, 111, 114] := (Option.some.inj e1).symm
  subst en
  obtain rfl := Option.some.inj (rtype87.symm.trans e2)
  have hm : ty ∈ (List.range 170).filter fun t => Tryd.prog.rowNamed t [101, 114, 114, 111, 114] := List.mem_filter.2 ⟨List.mem_range.2 (by rw [← typesSize]; exact e3), e4⟩
  rw [oneRow] at hm
  obtain rfl := List.mem_singleton.1 hm
  have hh : typeHandle Tryd.prog 39 = .pointer (some ⟨10, 39, none⟩) := by kernel_rfl
  rw [hh] at e5
  unfold TypeV
  simpa using World.var?_cell gType e5 0
theorem vars_of_laid {W : World} (h : laidMetH Tryd.prog Rows.fnExactParseScriptRow.laid W) : ErrV W ∧ TypeV W ∧ 6 < W.heap.size ∧ ∃ a, W.var? Tryd.prog "loop.example/s0063/impl.errWrong" = some #[.iface 125 (.pointer (some a))] := by
  obtain ⟨hl, hh⟩ := laid_parts h
  have hR := hl.tail.tail.tail.tail
  obtain ⟨a6, s6, hv6, _⟩ := laid_sentinel hR gRange tRange Tryd.underlying39 row125 Tryd.underlying125 Tryd.underlying127 rfl rfl Tryd.underlying9 cells127 cells9
  obtain ⟨a5, s5, hv5, _⟩ := laid_sentinel hR.tail gSyntax tSyntax Tryd.underlying39 row125 Tryd.underlying125 Tryd.underlying127 rfl rfl Tryd.underlying9 cells127 cells9
  obtain ⟨a0, s0, hv0, _⟩ := laid_sentinel hR.tail.tail gWrong tWrong Tryd.underlying39 row125 Tryd.underlying125 Tryd.underlying127 rfl rfl Tryd.underlying9 cells127 cells9
  have h6 : W.cell? ⟨6, 0, none⟩ = some (.iface 125 (.pointer (some a6))) := by simpa using World.var?_cell gRange hv6 0
  have h5 : W.cell? ⟨5, 0, none⟩ = some (.iface 125 (.pointer (some a5))) := by simpa using World.var?_cell gSyntax hv5 0
  exact ⟨⟨⟨_, h5, .inr ⟨_, _, rfl⟩⟩, ⟨_, h6, .inr ⟨_, _, rfl⟩⟩⟩, type_of_laid hh, World.block_lt_of_cell? _ _ h6, a0, hv0⟩
theorem var_below {W W' : World} {cs : Array Value} (h : W.var? Tryd.prog "loop.example/s0063/impl.errWrong" = some cs) (hb : Below W.heap.size W W') : W'.var? Tryd.prog "loop.example/s0063/impl.errWrong" = some cs := by
  unfold World.var? at h ⊢
  rw [gWrong] at h ⊢
  simp only [Option.bind_some] at h ⊢
  have hlt : 0 < W.heap.size := by
    rcases Nat.lt_or_ge 0 W.heap.size with h' | h'
    · exact h'
    · rw [Array.getElem?_eq_none h'] at h; cases h
  rw [hb.block 0 hlt]
  exact h
noncomputable def handleWorld (os : Os) : World :=
  let w0 := World.holding Tryd.prog os ⟨#[], #[], []⟩
  { w0 with heap := w0.heap.modify 1 fun
      | .cells _ t frozen => .cells #[.iface 87 (.agg #[.pointer (some ⟨10, 39, none⟩)])] t frozen
      | o => o }
noncomputable def laidWorld (os : Os) : World := (handleWorld os).layVars Tryd.prog L8
theorem laidWorld_os (os : Os) : (laidWorld os).os = os := World.layVars_os _ _ _
theorem laidWorld_data (os : Os) : laidMet Tryd.prog L8 (laidWorld os) := by
  have e1 : (L8.filter fun x => (L8.map (·.1)).contains x.1) = L8 := List.filter_eq_self.2 fun x hx => List.contains_iff_mem.2 (List.mem_map.2 ⟨x, hx, rfl⟩)
  have e2 : (L8.filter fun x => !(L8.map (·.1)).contains x.1) = [] := List.filter_eq_nil_iff.2 fun x hx => by rw [List.contains_iff_mem.2 (List.mem_map.2 ⟨x, hx, rfl⟩)]; simp
  exact laidMet_layVars (w0 := handleWorld os) (L8.map (·.1)) [] (by rw [e1]; rfl) (by rw [e1]; kernel_rfl) (by rw [e1]; kernel_rfl) (by rw [e2]; exact LaidIn.none)
theorem laidWorld_met (os : Os) : laidMetH Tryd.prog Rows.fnExactParseScriptRow.laid (laidWorld os) :=
  laidMetH_of_parts (laidWorld_data os) (by kernel_rfl)
end Go.Proofs.YtbdpnimfkogajaaDoor.Txt
