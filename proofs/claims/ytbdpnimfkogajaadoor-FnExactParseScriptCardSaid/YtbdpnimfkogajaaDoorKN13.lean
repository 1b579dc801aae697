/- Proved here: impl's lineOf at an *atLine; impl's ParseScript. Conditions: they stand in the statements. -/
import Derived.Test.YtbdpnimfkogajaaDoorKN12
namespace Go.Proofs.YtbdpnimfkogajaaDoor.Txt
open Go.RowKit Go.Proofs.YtbdpnimfkogajaaDoorW.PrintWords Go.Proofs.YtbdpnimfkogajaaDoorW.PrintLast Go.Proofs.YtbdpnimfkogajaaDoorW.PrintMore Go.Proofs.YtbdpnimfkogajaaDoor.PFnExactParseScript
set_option linter.unusedVariables false
set_option maxHeartbeats 2000000 in
set_option maxRecDepth 100000 in
theorem lineOf_calls {b : Nat} {line : Int} {w : World} (hg : w.cell? ⟨1, 0, none⟩ = some (.iface 87 (.agg #[.pointer (some ⟨10, 39, none⟩)]))) (hl : w.cell? ⟨b, 0, none⟩ = some (.int .i64 line)) :
    Calls Tryd.prog 20 #[.iface 56 (.pointer (some ⟨b, 0, none⟩))] w fun e w' => e = .returned (.int .i64 line) ∧ Below w.heap.size w w' := by
  have hlt := World.block_lt_of_cell? _ _ hl
  go_enter Tryd.func20, Tryd.ntmps20
  go_wp2_with fail
  have hn := new_box w (.pointer none) 56
  refine (as_hit2 ⟨b, 0, none⟩ ⟨w.heap.size, 0, none⟩ _ _ (below_cell (al _ _) hg) hn.1 hn.2).mono ?_
  rintro e w1 ⟨rfl, hc1, hC1⟩
  have hB1 : Below w.heap.size w w1 := by
    have hB0 := al w (.cells #[.pointer none] 56)
    exact ⟨hC1.os.trans hB0.os, hC1.tape.trans hB0.tape, hC1.output.trans hB0.output, Nat.le_trans hB0.size hC1.size, fun k hk => (hC1.same k (by simp; omega) (by simp; omega)).trans (hB0.block k hk)⟩
  have hl1 := below_cell hB1 hl
  have HB := Aside0.mk hB1
  clear hB1 hC1 hn hg hl
  dsimp only
  go_wp2_with fail
  go_ret
  exact ⟨rfl, HB.out⟩
set_option maxHeartbeats 800000 in
set_option maxRecDepth 100000 in
theorem addmake_calls (k : Int) (g ob : Nat) (w : World) : Calls Tryd.prog 11 #[.int .i64 k, .func (.func g) #[] #[], .pointer (some ⟨ob, 0, none⟩)] w fun e w' =>
    ∃ kb rb, e = .returned (.func (.func 12) #[] #[.pointer (some ⟨kb, 0, none⟩), .pointer (some ⟨rb, 0, none⟩), .pointer (some ⟨ob, 0, none⟩)]) ∧ w.heap.size ≤ kb ∧ kb < w'.heap.size ∧ w.heap.size ≤ rb ∧ rb < w'.heap.size ∧
      w'.cell? ⟨kb, 0, none⟩ = some (.int .i64 k) ∧ w'.cell? ⟨rb, 0, none⟩ = some (.func (.func g) #[] #[]) ∧ Below w.heap.size w w' := by
  have hmf : ∀ (fn : Fn) (first cap : Array Value) (w : World), (Instr.makeFunc fn first cap).run Tryd.prog w = .ok (.func fn first cap) w := fun _ _ _ _ => rfl
  go_enter Tryd.func11, Tryd.ntmps11
  go_wp2_with fail
  go_ret
  have n1 := new_box w (.int .i64 k) 3
  have n2 := new_box (w.alloc (.cells #[.int .i64 k] 3)) (.func (.func g) #[] #[]) 34
  simp only [World.size_alloc] at n2
  exact ⟨w.heap.size, w.heap.size + 1, rfl, Nat.le_refl _, by simp; omega, by omega, by simp, below_cell (al _ _) n1.1, n2.1, ((Below.refl w.heap.size w).alloc (by simp) _).alloc (by simp) _⟩
theorem ins_run {W : World} {mb : Nat} {es : Array MapEntry} {clock : Nat} {k : ByteArray} {v : Value} (h : W.heap[mb]? = some (.map es clock)) (hf : Instr.findNow .string (.string k) es.toList 0 = some none) :
    (Instr.mapUpdate 44 (.map (some mb)) (.string k) v).run Tryd.prog W = .ok () (W.putObj mb (.map (es.push ⟨.string k, v, clock⟩) (clock + 1))) := by
  have hu := Tryd.underlying44
  have hu9 := Tryd.underlying9
  have hg : (getObj mb).run Tryd.prog W = .ok (.map es clock) W := by simp [getObj, Sem.run, h]
  have hs : ∀ o, (setObj mb o).run Tryd.prog W = .ok () (W.putObj mb o) := fun o => by simp [setObj, Sem.run, h, World.putObj]
  have hk : (Instr.findKey 9 (.string k) es.toList).run Tryd.prog W = .ok none W := by
    simp [Instr.findKey, run_underlying hu9, Result.andThen, hf]
  have hc : ∀ b, (Instr.checkKey b (9999 + 1) 9 (.string k)).run Tryd.prog W = .ok () W := by
    intro b
    unfold Instr.checkKey
    simp only [Sem.run_bind, run_underlying hu9, Result.andThen, Sem.run_pure]
  unfold Instr.mapUpdate
  simp only [Sem.run_bind, run_underlying hu, Result.andThen, hg, hc, hk, hs]
end Go.Proofs.YtbdpnimfkogajaaDoor.Txt
