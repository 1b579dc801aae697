/- Proved here: what the map of the readers gives at a key. Conditions: they stand in the statement. -/
import Derived.Test.YtbdpnimfkogajaaDoorKN8
namespace Go.Proofs.YtbdpnimfkogajaaDoor.Txt
open Go.RowKit Go.Proofs.YtbdpnimfkogajaaDoorW.PrintWords Go.Proofs.YtbdpnimfkogajaaDoorW.PrintLast Go.Proofs.YtbdpnimfkogajaaDoorW.PrintMore Go.Proofs.YtbdpnimfkogajaaDoor.PFnExactParseScript
set_option linter.unusedVariables false
def kPost : ByteArray := ⟨#[112, 111, 115, 116]⟩
def kPublish : ByteArray := ⟨#[112, 117, 98, 108, 105, 115, 104]⟩
def kTick : ByteArray := ⟨#[116, 105, 99, 107]⟩
def kRun : ByteArray := ⟨#[114, 117, 110]⟩
def rdMap (v1 v2 v3 v4 : Value) : Obj := .map #[⟨.string kPost, v1, 0⟩, ⟨.string kPublish, v2, 1⟩, ⟨.string kTick, v3, 2⟩, ⟨.string kRun, v4, 3⟩] 4
def rdPick (v1 v2 v3 v4 : Value) (s : ByteArray) : Value × Bool :=
  if s = kPost then (v1, true) else if s = kPublish then (v2, true) else if s = kTick then (v3, true) else if s = kRun then (v4, true) else (.nilFunc, false)
theorem bytes_beq (s t : ByteArray) : (s == t) = decide (s = t) := by
  have h : (s == t) = (s.data == t.data) := rfl
  rw [h, Bool.eq_iff_iff]
  simp [ByteArray.ext_iff]
def rdEs (v1 v2 v3 v4 : Value) : List MapEntry := [⟨.string kPost, v1, 0⟩, ⟨.string kPublish, v2, 1⟩, ⟨.string kTick, v3, 2⟩, ⟨.string kRun, v4, 3⟩]
theorem find_run (v1 v2 v3 v4 : Value) (s : ByteArray) : Instr.findNow .string (.string s) (rdEs v1 v2 v3 v4) 0 =
    some (if s = kPost then some (0, v1) else if s = kPublish then some (1, v2) else if s = kTick then some (2, v3) else if s = kRun then some (3, v4) else none) := by
  simp only [rdEs, Instr.findNow, Instr.sameNow, bytes_beq]
  by_cases h1 : s = kPost
  · rw [if_pos h1]; simp only [decide_eq_true h1]
  rw [if_neg h1]; simp only [decide_eq_false h1]
  by_cases h2 : s = kPublish
  · rw [if_pos h2]; simp only [decide_eq_true h2]
  rw [if_neg h2]; simp only [decide_eq_false h2]
  by_cases h3 : s = kTick
  · rw [if_pos h3]; simp only [decide_eq_true h3]
  rw [if_neg h3]; simp only [decide_eq_false h3]
  by_cases h4 : s = kRun
  · rw [if_pos h4]; simp only [decide_eq_true h4]
  rw [if_neg h4]; simp only [decide_eq_false h4]
theorem look_run {W : World} {mb : Nat} {v1 v2 v3 v4 : Value} (h : W.heap[mb]? = some (rdMap v1 v2 v3 v4)) (s : ByteArray) :
    (Instr.lookup 44 (.map (some mb)) (.string s) true).run Tryd.prog W = .ok (.tuple #[(rdPick v1 v2 v3 v4 s).1, .bool (rdPick v1 v2 v3 v4 s).2]) W := by
  have hu := Tryd.underlying44
  have hu9 := Tryd.underlying9
  have hz : (zeroValue 35).run Tryd.prog W = .ok .nilFunc W := Tryd.zeroValue35 W
  have hg : (getObj mb).run Tryd.prog W = .ok (rdMap v1 v2 v3 v4) W := by simp [getObj, Sem.run, h]; rfl
  unfold Instr.lookup
  have hk : (Instr.findKey 9 (.string s) (rdEs v1 v2 v3 v4)).run Tryd.prog W = .ok (if s = kPost then some (0, v1) else if s = kPublish then some (1, v2) else if s = kTick then some (2, v3) else if s = kRun then some (3, v4) else none) W := by
    simp [Instr.findKey, run_underlying hu9, Result.andThen, find_run]
  have hc : ∀ b, (Instr.checkKey b (9999 + 1) 9 (.string s)).run Tryd.prog W = .ok () W := by
    intro b
    unfold Instr.checkKey
    simp only [Sem.run_bind, run_underlying hu9, Result.andThen, Sem.run_pure]
  simp only [rdEs] at hk
  simp only [Sem.run_bind, run_underlying hu, Result.andThen, hg, rdMap, Sem.run_pure, hc, hk]
  unfold rdPick
  by_cases h1 : s = kPost
  · simp only [if_pos h1, Sem.run_bind, Result.andThen, Sem.run_pure, if_true]
  simp only [if_neg h1]
  by_cases h2 : s = kPublish
  · simp only [if_pos h2, Sem.run_bind, Result.andThen, Sem.run_pure, if_true]
  simp only [if_neg h2]
  by_cases h3 : s = kTick
  · simp only [if_pos h3, Sem.run_bind, Result.andThen, Sem.run_pure, if_true]
  simp only [if_neg h3]
  by_cases h4 : s = kRun
  · simp only [if_pos h4, Sem.run_bind, Result.andThen, Sem.run_pure, if_true]
  simp only [if_neg h4, Sem.run_bind, hz, Result.andThen, Sem.run_pure, if_true]
end Go.Proofs.YtbdpnimfkogajaaDoor.Txt
