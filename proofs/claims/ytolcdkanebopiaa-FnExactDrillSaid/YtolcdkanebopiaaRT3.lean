/- Proved here: how the family of nodes that impl's tree builds goes on in memory: a new node, a child put on its parent's list, a node put on the list of all. Plain lemmas on worlds. -/
import Derived.Test.YtolcdkanebopiaaRT2
namespace Go.Proofs.Ytolcdkanebopiaa.Tree
open Go.RowKit
set_option linter.unusedVariables false
def upd {α : Type} (f : Nat → α) (k : Nat) (x : α) (i : Nat) : α := if i = k then x else f i
theorem upd_same {α : Type} (f : Nat → α) (k : Nat) (x : α) : upd f k x k = x := if_pos rfl
theorem upd_other {α : Type} (f : Nat → α) {k i : Nat} (x : α) (h : i ≠ k) : upd f k x i = f i := if_neg h
structure Bt (base : Nat) (w : World) (par : Nat → Int) (k r s : Nat) (B : Nat → Nat) (ch : Nat → Value) (v : Value) : Prop where
  fam : Fam w k B par (fun _ => -1) ch
  low : ∀ i, i < k → base ≤ B i
  nodes : w.ownsRow base 52 1 v s (ptrs B (List.range s))
  kids : ∀ i, i < k → ∃ n xs, w.ownsRow base 52 1 (ch i) n xs ∧ n ≤ r ∧ (n = 0 ↔ ∀ j, j < r → par j ≠ i)
  ap1 : ∀ i, i < k → (ch i).ownBlock = none ∨ (ch i).ownBlock ≠ v.ownBlock
  ap2 : ∀ i j, i < k → j < k → i ≠ j → (ch i).ownBlock = none ∨ (ch i).ownBlock ≠ (ch j).ownBlock
theorem grown_of {w w' : World} (h : Below w.heap.size w w') (row : Option Nat) : w.grownBy w' row := ⟨h.os, h.tape, h.output, h.size, fun k hk _ => h.block k hk⟩
theorem grown_set (w : World) (a : Addr) (u : Value) : w.grownBy (w.setCell a u) (some a.block) :=
  ⟨rfl, rfl, rfl, by simp [World.setCell], fun k hk hne => Below.heap_setCell w a u k (fun e => hne (by rw [e]))⟩
theorem owns_below {w w' : World} {base n : Nat} {v : Value} {xs : List Value} (h : w.ownsRow base 52 1 v n xs) (hB : Below w.heap.size w w') : w'.ownsRow base 52 1 v n xs :=
  h.kept (grown_of hB none) (by cases v.ownBlock <;> simp)
theorem owns_block {w : World} {base n b : Nat} {v : Value} {xs : List Value} (h : w.ownsRow base 52 1 v n xs) (hb : v.ownBlock = some b) : ∃ cur, w.heap[b]? = some (.cells cur 52 (0, 0)) := by
  rcases h.2 with ⟨rfl, _⟩ | ⟨g, cap, cur, rfl, _, hg, _⟩
  · simp [Value.ownBlock] at hb
  · simp [Value.ownBlock] at hb; subst hb; exact ⟨cur, hg⟩
theorem owns_ne_node {w : World} {base n b i : Nat} {B : Nat → Nat} {p q : Int} {c v : Value} {xs : List Value} (h : w.ownsRow base 52 1 v n xs) (hb : w.heap[b]? = some (nodeObj B i p q c)) : v.ownBlock ≠ some b := by
  intro e
  obtain ⟨cur, hc⟩ := owns_block h e
  rw [hb] at hc
  simp [nodeObj] at hc
theorem owns_set {w : World} {base n : Nat} {v u : Value} {xs : List Value} {a : Addr} (h : w.ownsRow base 52 1 v n xs) (hne : v.ownBlock ≠ some a.block) : (w.setCell a u).ownsRow base 52 1 v n xs :=
  h.kept (grown_set w a u) (Or.inr hne)
theorem ptrs_upd {B : Nat → Nat} {k g s : Nat} (h : s ≤ k) : ptrs (upd B k g) (List.range s) = ptrs B (List.range s) := by
  unfold ptrs
  refine List.map_congr_left fun j hj => ?_
  rw [upd_other _ _ (by have := List.mem_range.1 hj; omega)]
theorem pto_upd {B : Nat → Nat} {k g : Nat} {j : Int} (h : j < k) : pto (upd B k g) j = pto B j := by
  by_cases hj : j < 0
  · rw [pto_neg hj, pto_neg hj]
  · rw [pto_pos (by omega), pto_pos (by omega), upd_other _ _ (by omega)]
section
variable {base k r s : Nat} {w w' : World} {par : Nat → Int} {B : Nat → Nat} {ch : Nat → Value} {v : Value}
theorem Bt.below (h : Bt base w par k r s B ch v) (hB : Below w.heap.size w w') : Bt base w' par k r s B ch v :=
  ⟨h.fam.below hB, h.low, owns_below h.nodes hB, fun i hi => let ⟨n, xs, a, b⟩ := h.kids i hi; ⟨n, xs, owns_below a hB, b⟩, h.ap1, h.ap2⟩
theorem Bt.node (h : Bt base w par k r s B ch v) (hs : s ≤ k) (hr : r ≤ k) (hpar : ∀ i, i ≤ k → par i < i) (hbase : base ≤ w.heap.size) (hB : Below w.heap.size w w') {g : Nat} (hg : w.heap.size ≤ g)
    (hn : w'.heap[g]? = some (nodeObj B k (par k) (-1) (.slice none 0 0))) : Bt base w' par (k + 1) r s (upd B k g) (upd ch k (.slice none 0 0)) v := by
  have h' := h.below hB
  refine ⟨fun i hi => ?_, fun i hi => ?_, ?_, fun i hi => ?_, fun i hi => ?_, fun i j hi hj hij => ?_⟩
  · by_cases e : i = k
    · subst e
      rw [upd_same, upd_same, hn]
      unfold nodeObj
      dsimp only
      rw [pto_upd (hpar _ (Nat.le_refl _)), pto_upd (j := -1) (by omega)]
    · rw [upd_other _ _ e, upd_other _ _ e, h'.fam i (by omega)]
      unfold nodeObj
      dsimp only
      rw [pto_upd (by have := hpar i (by omega); omega), pto_upd (j := -1) (by omega)]
  · by_cases e : i = k
    · subst e; rw [upd_same]; omega
    · rw [upd_other _ _ e]; exact h.low i (by omega)
  · rw [ptrs_upd hs]; exact h'.nodes
  · by_cases e : i = k
    · subst e
      rw [upd_same]
      exact ⟨0, [], World.ownsRow_nil _ _ _ _, Nat.zero_le _, ⟨fun _ j hj => by have := hpar j (by omega); omega, fun _ => rfl⟩⟩
    · rw [upd_other _ _ e]; exact h'.kids i (by omega)
  · by_cases e : i = k
    · subst e; rw [upd_same]; exact Or.inl rfl
    · rw [upd_other _ _ e]; exact h.ap1 i (by omega)
  · by_cases e : i = k
    · subst e; rw [upd_same]; exact Or.inl rfl
    · rw [upd_other _ _ e]
      by_cases e2 : j = k
      · subst e2; rw [upd_same]
        cases hx : (ch i).ownBlock with
        | none => exact Or.inl rfl
        | some b => exact Or.inr (by simp [Value.ownBlock])
      · rw [upd_other _ _ e2]; exact h.ap2 i j (by omega) (by omega) hij
theorem Bt.root (h : Bt base w par k r s B ch v) (hr : par r < 0) : Bt base w par k (r + 1) s B ch v := by
  refine ⟨h.fam, h.low, h.nodes, fun i hi => ?_, h.ap1, h.ap2⟩
  obtain ⟨n, xs, a, b, c⟩ := h.kids i hi
  refine ⟨n, xs, a, by omega, c.trans ⟨fun f j hj => ?_, fun f j hj => f j (by omega)⟩⟩
  by_cases e : j = r
  · subst e; omega
  · exact f j (by omega)
theorem Bt.child (h : Bt base w par k r s B ch v) {p : Nat} (hp : p < k) (hr : par r = p) {n : Nat} {xs news : List Value} (ho : w.ownsRow base 52 1 (ch p) n xs) (hnr : n ≤ r) {w2 : World} {g cap : Nat}
    (ho2 : w2.ownsRow base 52 1 (.slice (some ⟨g, 0, none⟩) (n + 1) cap) (n + 1) (xs ++ news)) (hg : w.grownBy w2 (ch p).ownBlock) (hat : (ch p).ownBlock = some g ∨ g = w.heap.size) :
    Bt base (w2.setCell ⟨B p, 3, none⟩ (.slice (some ⟨g, 0, none⟩) (n + 1) cap)) par k (r + 1) s B (upd ch p (.slice (some ⟨g, 0, none⟩) (n + 1) cap)) v := by
  obtain ⟨c, hc⟩ : ∃ c, c = Value.slice (some ⟨g, 0, none⟩) (n + 1) cap := ⟨_, rfl⟩
  rw [← hc] at ho2 ⊢
  have hcb : c.ownBlock = some g := by rw [hc]; rfl
  have hfam2 : Fam w2 k B par (fun _ => -1) ch := fun i hi => (hg.block _ (h.fam.lt hi) (fun e => owns_ne_node ho (h.fam i hi) e.symm)).trans (h.fam i hi)
  have hsz : ∀ {u : Value} {m : Nat} {ys : List Value}, w.ownsRow base 52 1 u m ys → u.ownBlock ≠ some w.heap.size := fun hu e => by have := (hu.lt _ e).2; omega
  have hother : ∀ {u : Value} {m : Nat} {ys : List Value}, w.ownsRow base 52 1 u m ys → (u.ownBlock = none ∨ u.ownBlock ≠ (ch p).ownBlock) → (w2.setCell ⟨B p, 3, none⟩ c).ownsRow base 52 1 u m ys := fun hu hne =>
    let h2 := hu.kept hg hne
    owns_set h2 (owns_ne_node h2 (hfam2 p hp))
  have hgne : ∀ {u : Value} {m : Nat} {ys : List Value}, w.ownsRow base 52 1 u m ys → (u.ownBlock = none ∨ u.ownBlock ≠ (ch p).ownBlock) → u.ownBlock = none ∨ u.ownBlock ≠ c.ownBlock := fun hu hne => by
    rw [hcb]
    rcases hat with e | e
    · rw [← e]; exact hne
    · rw [e]; exact Or.inr (hsz hu)
  refine ⟨fun i hi => ?_, h.low, hother h.nodes ?_, fun i hi => ?_, fun i hi => ?_, fun i j hi hj hij => ?_⟩
  · by_cases e : i = p
    · subst e
      rw [upd_same]
      have := hfam2 i hi
      simp only [World.setCell, Array.getElem?_modify, this]
      simp [nodeObj]
    · rw [upd_other _ _ e, Below.heap_setCell _ _ _ _ (fun e2 => e (h.fam.inj hi hp e2)), hfam2 i hi]
  · rcases h.ap1 p hp with e | e
    · cases hx : v.ownBlock with
      | none => exact Or.inl rfl
      | some b => exact Or.inr (by rw [e]; simp)
    · exact Or.inr (Ne.symm e)
  · by_cases e : i = p
    · subst e
      rw [upd_same]
      exact ⟨n + 1, _, owns_set ho2 (owns_ne_node ho2 (hfam2 i hp)), by omega, ⟨fun e => by omega, fun f => absurd hr (f r (by omega))⟩⟩
    · rw [upd_other _ _ e]
      obtain ⟨n', xs', a, b, d⟩ := h.kids i hi
      refine ⟨n', xs', hother a (h.ap2 i p hi hp e), by omega, d.trans ⟨fun f j hj => ?_, fun f j hj => f j (by omega)⟩⟩
      by_cases e2 : j = r
      · subst e2; omega
      · exact f j (by omega)
  · by_cases e : i = p
    · subst e
      rw [upd_same, hcb]
      right
      rcases hat with e | e
      · rw [← e]
        rcases h.ap1 i hp with e3 | e3
        · rw [e3] at e; cases e
        · exact e3
      · rw [e]; exact fun e4 => hsz h.nodes e4.symm
    · rw [upd_other _ _ e]; exact h.ap1 i hi
  · by_cases e : i = p
    · subst e
      rw [upd_same, upd_other _ _ (Ne.symm hij), hcb]
      right
      obtain ⟨n', xs', a, _⟩ := h.kids j hj
      rcases hat with e | e
      · rw [← e]
        rcases h.ap2 i j hi hj hij with e3 | e3
        · rw [e3] at e; cases e
        · exact e3
      · rw [e]; exact fun e4 => hsz a e4.symm
    · rw [upd_other _ _ e]
      obtain ⟨n', xs', a, _⟩ := h.kids i hi
      by_cases e2 : j = p
      · subst e2; rw [upd_same]; exact hgne a (h.ap2 i j hi hj hij)
      · rw [upd_other _ _ e2]; exact h.ap2 i j hi hj hij
theorem Bt.all (h : Bt base w par k r s B ch v) {w2 : World} {v2 : Value}
    (ho2 : w2.ownsRow base 52 1 v2 (s + 1) (ptrs B (List.range s) ++ [.pointer (some ⟨B s, 0, none⟩)])) (hg : w.grownBy w2 v.ownBlock) (hat : v2.ownBlock = v.ownBlock ∨ v2.ownBlock = some w.heap.size) :
    Bt base w2 par k r (s + 1) B ch v2 := by
  have hx : ptrs B (List.range s) ++ [.pointer (some ⟨B s, 0, none⟩)] = ptrs B (List.range (s + 1)) := by simp [ptrs, List.range_succ]
  rw [hx] at ho2
  refine ⟨fun i hi => (hg.block _ (h.fam.lt hi) (fun e => owns_ne_node h.nodes (h.fam i hi) e.symm)).trans (h.fam i hi), h.low, ho2, fun i hi => ?_, fun i hi => ?_, h.ap2⟩
  · obtain ⟨n, xs, a, b⟩ := h.kids i hi
    exact ⟨n, xs, a.kept hg (h.ap1 i hi), b⟩
  · obtain ⟨n, xs, a, _⟩ := h.kids i hi
    rcases hat with e | e
    · rw [e]; exact h.ap1 i hi
    · rw [e]; exact Or.inr (fun e4 => by have := (a.lt _ e4).2; omega)
end
end Go.Proofs.Ytolcdkanebopiaa.Tree
