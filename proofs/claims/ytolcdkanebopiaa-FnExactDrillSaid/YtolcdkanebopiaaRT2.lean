/- Proved here: what impl's domain gives on a family of nodes: the innermost proper ancestor of both, as the Lean function domF finds it. Conditions: as for path. -/
import Derived.Test.YtolcdkanebopiaaRT1
import Derived.Outline
import Derived.WalkMore
import Derived.LaidEqlPtr
import Derived.Deep.QuietTactic
import Derived.BigQuiet
import Derived.Deep.RegionWith
namespace Go.Proofs.Ytolcdkanebopiaa.Tree
open Go.RowKit Go.Proofs.YtolcdkanebopiaaW.PrintWords Go.Proofs.YtolcdkanebopiaaW.PrintLast Go.Proofs.YtolcdkanebopiaaW.PrintMore Go.Proofs.Ytolcdkanebopiaa.PFnExactDomain
set_option linter.unusedVariables false
set_option linter.unusedSimpArgs false
theorem Fam.inj {w : World} {n : Nat} {B : Nat → Nat} {par ini : Nat → Int} {ch : Nat → Value} (h : Fam w n B par ini ch) {i j : Nat} (hi : i < n) (hj : j < n) (e : B i = B j) : i = j := by
  have h1 := h i hi
  have h2 := h j hj
  rw [e, h2] at h1
  simp only [nodeObj, Option.some.injEq, Obj.cells.injEq] at h1
  have := congrArg (fun a : Array Value => a.toList.head?) h1.1
  simp at this
  omega
theorem rd_ptr {w : World} {A : Option Addr} {B : Nat → Nat} {l : List Nat} (h : Rd w A (ptrs B l)) {m x : Nat} (hx : l[m]? = some x) : ∃ ad, A = some ad ∧ w.cell? (ad.add m) = some (.pointer (some ⟨B x, 0, none⟩)) :=
  h m _ (by simp [ptrs, hx])
theorem Fam.below {w w' : World} {n : Nat} {B : Nat → Nat} {par ini : Nat → Int} {ch : Nat → Value} (h : Fam w n B par ini ch) (hB : Below w.heap.size w w') : Fam w' n B par ini ch :=
  fun i hi => (hB.block _ (h.lt hi)).trans (h i hi)
theorem below_drewN {B : Nat} {a w : World} (h : Below B a w) (m : Nat) : Below B a (w.drewN m) := ⟨h.os, h.tape, h.output, h.size, h.block⟩
theorem info55 : (Try.prog.info? 55).map (fun i => i.size) = some 4 := by kernel_rfl
theorem info55' : ∃ j, Try.prog.info? 55 = some j ∧ j.size = 4 := by
  have h := info55
  cases e : Try.prog.info? 55 with
  | none => rw [e] at h; cases h
  | some j => rw [e] at h; exact ⟨j, rfl, Option.some.inj h⟩
end Go.Proofs.Ytolcdkanebopiaa.Tree
