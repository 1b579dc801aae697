/- Proved: laws.FnExactDomain answers true and leaves its arguments as they were: the program's Domain returns what the reference's returns, for every chart and every two numbers; no condition. -/
import Derived.Test.YtolcdkanebopiaaRows
import Derived.Test.YtolcdkanebopiaaRT6
import Derived.WalkKit
import Derived.ProofKit
import Derived.OpenShut
import Derived.ChangeOld
import Derived.Below
import Derived.Lib.SmallJoins
import Derived.Deep.Slices
import Derived.Deep.Strs
import Derived.DataReads
namespace Go.Proofs.Ytolcdkanebopiaa.Tree
open Go.ChangeShapes Go.WideShapes Go.ChangeAt Go.RowKit Go.Joins Go.Deep Go.Proofs.YtolcdkanebopiaaW.PrintWords Go.Proofs.Ytolcdkanebopiaa.PFnExactDomain
set_option linter.unusedVariables false
theorem own : ownKnob Try.prog.godebug = none := by kernel_rfl
theorem laidOut : laidOutB Try.prog = true := by kernel_rfl
theorem cells3 : Try.prog.cellsOf 3 = 1 := by kernel_rfl
theorem cells25 : Try.prog.cellsOf 25 = 2 := by kernel_rfl
theorem cells64 : Try.prog.cellsOf 64 = 1 := by kernel_rfl
theorem cells66 : Try.prog.cellsOf 66 = 4 := by kernel_rfl
theorem cells68 : Try.prog.cellsOf 68 = 1 := by kernel_rfl
theorem cells70 : Try.prog.cellsOf 70 = 5 := by kernel_rfl
theorem cells101 : Try.prog.cellsOf 101 = 4 := by kernel_rfl
theorem cells104 : Try.prog.cellsOf 104 = 2 := by kernel_rfl
def Opn {H : Type} (enc : TypeId × Value → H) (w : World) (sp : Nat → Bool) (hd : Bool) {α : Type} (t : TypeId) (d : Kd α) : Prop := ∀ fuel cs x, DataW.trod enc Try.prog w 0 sp hd fuel t cs = some x → ∃ v : α, d.K w v cs
section
variable {H : Type} {enc : TypeId × Value → H} {w : World} {sp : Nat → Bool} {hd : Bool}
theorem opn_int : Opn enc w sp hd 3 (Kd.int .i64) := fun fuel cs x h => by
  obtain ⟨n, rfl, _⟩ := DataW.trod_int Try.underlying3 h
  exact ⟨n, rfl⟩
theorem opn_slice {α : Type} {d : Kd α} {t e : TypeId} (ht : Try.prog.underlying t = some (.slice e)) (hsz : d.sz = Try.prog.cellsOf e) (h : Opn enc w sp hd e d) : Opn enc w sp hd t (Kd.slice e d) := fun fuel cs x hx => by
  rcases open_slice ht hx with ⟨rfl, _⟩ | ⟨a, len, cap, m, n, D, Pl, rfl, _, hl, hm, em, _, hel⟩
  · exact ⟨[], none, 0, rfl, Nat.le_refl _, rfl, by simp, fun h => absurd h (by simp)⟩
  · have hlm : len ≤ m := by rw [em]; split <;> omega
    have hv : ∀ i, i < len → ∃ v : α, ∃ cs', w.cells? 0 (a.add (i * Try.prog.cellsOf e)) (Try.prog.cellsOf e) = some cs' ∧ d.K w v cs' := fun i hi => by
      obtain ⟨cs', h1, h2⟩ := hel i (by omega)
      obtain ⟨v, hk⟩ := h _ _ _ h2
      exact ⟨v, cs', h1, hk⟩
    by_cases hz : len = 0
    · subst hz
      exact ⟨[], some a, cap, rfl, Nat.zero_le _, rfl, by simp, fun h => absurd h (by simp)⟩
    · obtain ⟨v0, _⟩ := hv 0 (by omega)
      have : Inhabited α := ⟨v0⟩
      obtain ⟨f, hf⟩ := choose_lt hv
      have hlen : ((List.range len).map f).length = len := by simp
      refine ⟨(List.range len).map f, some a, cap, by rw [hlen], by rw [hlen]; exact hl, by rw [hlen], by rw [hlen]; simp only [maxLen] at hm; omega, fun _ => ⟨a, rfl, fun j p hp => ?_⟩⟩
      have hj : j < len := by have := (List.getElem?_eq_some_iff.1 hp).1; rw [hlen] at this; exact this
      obtain ⟨cs', hc, hk⟩ := hf j hj
      have hpf : p = f j := by simp [hj] at hp; exact hp.symm
      subst hpf
      refine ⟨cs', d.K_len hk, hk, fun i u hu => ?_⟩
      have hi : i < Try.prog.cellsOf e := by have := (List.getElem?_eq_some_iff.1 hu).1; rw [d.K_len hk, hsz] at this; exact this
      have hcc := (World.cells?_some hc).2.2 i hi
      rw [Go.Deep.add_add] at hcc
      rw [hsz, hcc]; exact hu
theorem some_of {α : Type} {xs : List α} {i n : Nat} (h : xs.length = n) (hi : i < n) : ∃ y, xs[i]? = some y := ⟨_, List.getElem?_eq_getElem (by omega)⟩
theorem list2 {β : Type} : ∀ {l : List β}, l.length = 2 → ∃ a b, l = [a, b]
  | [a, b], _ => ⟨a, b, rfl⟩
theorem list4 {β : Type} : ∀ {l : List β}, l.length = 4 → ∃ a b c d, l = [a, b, c, d]
  | [a, b, c, d], _ => ⟨a, b, c, d, rfl⟩
theorem list5 {β : Type} : ∀ {l : List β}, l.length = 5 → ∃ a b c d e, l = [a, b, c, d, e]
  | [a, b, c, d, e], _ => ⟨a, b, c, d, e, rfl⟩
theorem opn_104 : Opn enc w sp hd 104 k104 := fun fuel cs x h => by
  obtain ⟨xs, n, _, _, hl, hlen, hf⟩ := DataW.trod_struct Try.underlying104 h
  rw [cells104] at hl
  obtain ⟨c0, c1, rfl⟩ := list2 hl
  obtain ⟨y0, e0⟩ := some_of hlen (show 0 < 2 by omega)
  obtain ⟨y1, e1⟩ := some_of hlen (show 1 < 2 by omega)
  have h0 : DataW.trod enc Try.prog w 0 sp hd n 3 (List.take (Try.prog.cellsOf 3) (List.drop 0 [c0, c1])) = some y0 := (hf 0 _ rfl).trans e0
  have h1 : DataW.trod enc Try.prog w 0 sp hd n 3 (List.take (Try.prog.cellsOf 3) (List.drop 1 [c0, c1])) = some y1 := (hf 1 _ rfl).trans e1
  simp only [cells3, List.drop_zero, List.drop_succ_cons, List.take_succ_cons, List.take_zero] at h0 h1
  obtain ⟨n0, k0⟩ := opn_int (w := w) _ _ _ h0
  obtain ⟨n1, k1⟩ := opn_int (w := w) _ _ _ h1
  cases k0
  cases k1
  exact ⟨⟨n0, n1⟩, k104_mk w ⟨n0, n1⟩⟩
theorem opn_68 : Opn enc w sp hd 68 (Kd.slice 104 k104) := opn_slice Try.underlying68 cells104.symm opn_104
theorem opn_101 : Opn enc w sp hd 101 k101 := fun fuel cs x h => by
  obtain ⟨xs, n, _, _, hl, hlen, hf⟩ := DataW.trod_struct Try.underlying101 h
  rw [cells101] at hl
  obtain ⟨c0, c1, c2, c3, rfl⟩ := list4 hl
  obtain ⟨y0, e0⟩ := some_of hlen (show 0 < 4 by omega)
  obtain ⟨y1, e1⟩ := some_of hlen (show 1 < 4 by omega)
  obtain ⟨y2, e2⟩ := some_of hlen (show 2 < 4 by omega)
  obtain ⟨y3, e3⟩ := some_of hlen (show 3 < 4 by omega)
  have h0 : DataW.trod enc Try.prog w 0 sp hd n 3 (List.take (Try.prog.cellsOf 3) (List.drop 0 [c0, c1, c2, c3])) = some y0 := (hf 0 _ rfl).trans e0
  have h1 : DataW.trod enc Try.prog w 0 sp hd n 3 (List.take (Try.prog.cellsOf 3) (List.drop 1 [c0, c1, c2, c3])) = some y1 := (hf 1 _ rfl).trans e1
  have h2 : DataW.trod enc Try.prog w 0 sp hd n 3 (List.take (Try.prog.cellsOf 3) (List.drop 2 [c0, c1, c2, c3])) = some y2 := (hf 2 _ rfl).trans e2
  have h3 : DataW.trod enc Try.prog w 0 sp hd n 68 (List.take (Try.prog.cellsOf 68) (List.drop 3 [c0, c1, c2, c3])) = some y3 := (hf 3 _ rfl).trans e3
  simp only [cells3, cells68, List.drop_zero, List.drop_succ_cons, List.take_succ_cons, List.take_zero] at h0 h1 h2 h3
  obtain ⟨n0, k0⟩ := opn_int (w := w) _ _ _ h0
  obtain ⟨n1, k1⟩ := opn_int (w := w) _ _ _ h1
  obtain ⟨n2, k2⟩ := opn_int (w := w) _ _ _ h2
  obtain ⟨n3, A, c, k3, hlc, hC⟩ := opn_68 (w := w) _ _ _ h3
  cases k0
  cases k1
  cases k2
  cases k3
  exact ⟨⟨n0, n1, n2, n3⟩, k101_mk w ⟨n0, n1, n2, n3⟩ hlc hC⟩
theorem opn_64 : Opn enc w sp hd 64 (Kd.slice 101 k101) := opn_slice Try.underlying64 cells101.symm opn_101
theorem opn_66 : Opn enc w sp hd 66 k66 := fun fuel cs x h => by
  obtain ⟨xs, n, _, _, hl, hlen, hf⟩ := DataW.trod_struct Try.underlying66 h
  rw [cells66] at hl
  obtain ⟨c0, c1, c2, c3, rfl⟩ := list4 hl
  obtain ⟨y0, e0⟩ := some_of hlen (show 0 < 4 by omega)
  obtain ⟨y1, e1⟩ := some_of hlen (show 1 < 4 by omega)
  obtain ⟨y2, e2⟩ := some_of hlen (show 2 < 4 by omega)
  obtain ⟨y3, e3⟩ := some_of hlen (show 3 < 4 by omega)
  have h0 : DataW.trod enc Try.prog w 0 sp hd n 3 (List.take (Try.prog.cellsOf 3) (List.drop 0 [c0, c1, c2, c3])) = some y0 := (hf 0 _ rfl).trans e0
  have h1 : DataW.trod enc Try.prog w 0 sp hd n 3 (List.take (Try.prog.cellsOf 3) (List.drop 1 [c0, c1, c2, c3])) = some y1 := (hf 1 _ rfl).trans e1
  have h2 : DataW.trod enc Try.prog w 0 sp hd n 64 (List.take (Try.prog.cellsOf 64) (List.drop 2 [c0, c1, c2, c3])) = some y2 := (hf 2 _ rfl).trans e2
  have h3 : DataW.trod enc Try.prog w 0 sp hd n 64 (List.take (Try.prog.cellsOf 64) (List.drop 3 [c0, c1, c2, c3])) = some y3 := (hf 3 _ rfl).trans e3
  simp only [cells3, cells64, List.drop_zero, List.drop_succ_cons, List.take_succ_cons, List.take_zero] at h0 h1 h2 h3
  obtain ⟨n0, k0⟩ := opn_int (w := w) _ _ _ h0
  obtain ⟨n1, k1⟩ := opn_int (w := w) _ _ _ h1
  obtain ⟨n2, A, c, k2, hlc, hC⟩ := opn_64 (w := w) _ _ _ h2
  obtain ⟨n3, A', c', k3, hlc', hC'⟩ := opn_64 (w := w) _ _ _ h3
  cases k0
  cases k1
  cases k2
  cases k3
  exact ⟨⟨n0, n1, n2, n3⟩, k66_mk w ⟨n0, n1, n2, n3⟩ hlc hC hlc' hC'⟩
theorem opn_70 : Opn enc w sp hd 70 k70 := fun fuel cs x h => by
  obtain ⟨xs, n, _, _, hl, hlen, hf⟩ := DataW.trod_struct Try.underlying70 h
  rw [cells70] at hl
  obtain ⟨c0, c1, c2, c3, c4, rfl⟩ := list5 hl
  obtain ⟨y0, e0⟩ := some_of hlen (show 0 < 5 by omega)
  obtain ⟨y1, e1⟩ := some_of hlen (show 1 < 5 by omega)
  obtain ⟨y2, e2⟩ := some_of hlen (show 2 < 5 by omega)
  obtain ⟨y3, e3⟩ := some_of hlen (show 3 < 5 by omega)
  obtain ⟨y4, e4⟩ := some_of hlen (show 4 < 5 by omega)
  have h0 : DataW.trod enc Try.prog w 0 sp hd n 3 (List.take (Try.prog.cellsOf 3) (List.drop 0 [c0, c1, c2, c3, c4])) = some y0 := (hf 0 _ rfl).trans e0
  have h1 : DataW.trod enc Try.prog w 0 sp hd n 3 (List.take (Try.prog.cellsOf 3) (List.drop 1 [c0, c1, c2, c3, c4])) = some y1 := (hf 1 _ rfl).trans e1
  have h2 : DataW.trod enc Try.prog w 0 sp hd n 68 (List.take (Try.prog.cellsOf 68) (List.drop 2 [c0, c1, c2, c3, c4])) = some y2 := (hf 2 _ rfl).trans e2
  have h3 : DataW.trod enc Try.prog w 0 sp hd n 3 (List.take (Try.prog.cellsOf 3) (List.drop 3 [c0, c1, c2, c3, c4])) = some y3 := (hf 3 _ rfl).trans e3
  have h4 : DataW.trod enc Try.prog w 0 sp hd n 64 (List.take (Try.prog.cellsOf 64) (List.drop 4 [c0, c1, c2, c3, c4])) = some y4 := (hf 4 _ rfl).trans e4
  simp only [cells3, cells64, cells68, List.drop_zero, List.drop_succ_cons, List.take_succ_cons, List.take_zero] at h0 h1 h2 h3 h4
  obtain ⟨n0, k0⟩ := opn_int (w := w) _ _ _ h0
  obtain ⟨n1, k1⟩ := opn_int (w := w) _ _ _ h1
  obtain ⟨n2, A, c, k2, hlc, hC⟩ := opn_68 (w := w) _ _ _ h2
  obtain ⟨n3, k3⟩ := opn_int (w := w) _ _ _ h3
  obtain ⟨n4, A', c', k4, hlc', hC'⟩ := opn_64 (w := w) _ _ _ h4
  cases k0
  cases k1
  cases k2
  cases k3
  cases k4
  exact ⟨⟨n0, n1, n2, n3, n4⟩, k70_mk w ⟨n0, n1, n2, n3, n4⟩ hlc hC hlc' hC'⟩
theorem opn_22 : Opn enc w sp hd 22 (Kd.slice 66 k66) := opn_slice Try.underlying22 cells66.symm opn_66
theorem opn_23 : Opn enc w sp hd 23 (Kd.slice 70 k70) := opn_slice Try.underlying23 cells70.symm opn_70
end
end Go.Proofs.Ytolcdkanebopiaa.Tree
