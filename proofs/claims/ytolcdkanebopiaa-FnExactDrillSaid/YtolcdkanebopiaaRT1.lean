/- Proved here: what impl's node functions depth and path give on a family of nodes that lies in memory: the number of ancestors, a fresh slice of the nodes from a node up to the root. Conditions: each node's parent has a smaller number; at most 200 nodes. -/
import Derived.Test.YtolcdkanebopiaaRB5
import Derived.Test.YtolcdkanebopiaaRX9
namespace Go.Proofs.Ytolcdkanebopiaa.Tree
open Go.RowKit Go.Proofs.YtolcdkanebopiaaW.PrintWords Go.Proofs.YtolcdkanebopiaaW.PrintLast Go.Proofs.YtolcdkanebopiaaW.PrintMore Go.Proofs.Ytolcdkanebopiaa.PFnExactDomain
set_option linter.unusedVariables false
set_option linter.unusedSimpArgs false
def pto (B : Nat → Nat) (j : Int) : Option Addr := if j < 0 then none else some ⟨B j.toNat, 0, none⟩
theorem pto_neg {B : Nat → Nat} {j : Int} (h : j < 0) : pto B j = none := if_pos h
theorem pto_pos {B : Nat → Nat} {j : Int} (h : 0 ≤ j) : pto B j = some ⟨B j.toNat, 0, none⟩ := if_neg (by omega)
def nodeObj (B : Nat → Nat) (i : Nat) (p q : Int) (c : Value) : Obj := .cells #[.int .i64 i, .pointer (pto B p), .pointer (pto B q), c] 55 (0, 0)
def Fam (w : World) (n : Nat) (B : Nat → Nat) (par ini : Nat → Int) (ch : Nat → Value) : Prop := ∀ i, i < n → w.heap[B i]? = some (nodeObj B i (par i) (ini i) (ch i))
theorem blkc {w : World} {b : Nat} {cs : Array Value} {t : TypeId} (h : w.heap[b]? = some (.cells cs t (0, 0))) (i : Nat) : w.cell? ⟨b, i, none⟩ = cs[i]? := by
  simp [World.cell?, h]
theorem blkf {w : World} {b : Nat} {cs : Array Value} {t : TypeId} (h : w.heap[b]? = some (.cells cs t (0, 0))) (i : Nat) : w.frozen? ⟨b, i, none⟩ = false := by
  simp [World.frozen?, h]
section
variable {w : World} {n : Nat} {B : Nat → Nat} {par ini : Nat → Int} {ch : Nat → Value}
theorem Fam.c0 (h : Fam w n B par ini ch) {i : Nat} (hi : i < n) : w.cell? ⟨B i, 0, none⟩ = some (.int .i64 i) := (blkc (h i hi) 0).trans rfl
theorem Fam.c1 (h : Fam w n B par ini ch) {i : Nat} (hi : i < n) : w.cell? ⟨B i, 1, none⟩ = some (.pointer (pto B (par i))) := (blkc (h i hi) 1).trans rfl
theorem Fam.c2 (h : Fam w n B par ini ch) {i : Nat} (hi : i < n) : w.cell? ⟨B i, 2, none⟩ = some (.pointer (pto B (ini i))) := (blkc (h i hi) 2).trans rfl
theorem Fam.c3 (h : Fam w n B par ini ch) {i : Nat} (hi : i < n) : w.cell? ⟨B i, 3, none⟩ = some (ch i) := (blkc (h i hi) 3).trans rfl
theorem Fam.lt (h : Fam w n B par ini ch) {i : Nat} (hi : i < n) : B i < w.heap.size := (Array.getElem?_eq_some_iff.1 (h i hi)).1
end
def up (par : Nat → Int) (i : Nat) : List Nat := if h : 0 ≤ par i ∧ (par i).toNat < i then i :: up par (par i).toNat else [i]
termination_by i
decreasing_by exact h.2
theorem up_root {par : Nat → Int} {i : Nat} (h : par i < 0) : up par i = [i] := by rw [up, dif_neg (by omega)]
theorem up_step {par : Nat → Int} {i : Nat} (h : 0 ≤ par i) (hl : par i < i) : up par i = i :: up par (par i).toNat := by rw [up, dif_pos (by omega)]
theorem up_pos (par : Nat → Int) (i : Nat) : 1 ≤ (up par i).length := by
  rw [up]; split <;> simp
theorem up_len (par : Nat → Int) : ∀ n i, i ≤ n → (up par i).length ≤ i + 1 := by
  intro n
  induction n with
  | zero => intro i hi; obtain rfl : i = 0 := by omega
            rw [up, dif_neg (by omega)]; simp
  | succ n ih =>
    intro i hi
    rw [up]
    split
    · rename_i h
      have := ih (par i).toNat (by omega)
      simp only [List.length_cons]; omega
    · simp
set_option maxHeartbeats 400000 in
theorem depth_calls {w : World} {n : Nat} {B : Nat → Nat} {par ini : Nat → Int} {ch : Nat → Value} (hF0 : Fam w n B par ini ch) (hP0 : ∀ i, i < n → par i < i) (hn : n ≤ 200) (i : Nat) (hi : i < n) :
    Calls Try.prog 46 #[.pointer (some ⟨B i, 0, none⟩)] w fun e w' => e = .returned (.int .i64 ((up par i).length - 1)) ∧ w = w' := by
  have hF := Aside0.mk hF0
  have hP := Aside0.mk hP0
  have hl := up_len par i i (Nat.le_refl _)
  clear hF0 hP0
  go_enter Try.func46, Try.ntmps46
  go_wp2
  go_loopg [0, 3] i (fun k p d wr => ∃ m : Nat, k < n ∧ p = .pointer (some ⟨B k, 0, none⟩) ∧ d = .int .i64 m ∧ Aside0 (m + (up par k).length = (up par i).length) ∧ Aside0 (w = wr))
  case atStart => exact ⟨0, hi, rfl, rfl, ⟨by omega⟩, ⟨rfl⟩⟩
  case round =>
    obtain ⟨m, hk, rfl, rfl, hm, hw⟩ := hrel
    obtain rfl := hw.out
    clear hw
    have hb : m ≤ 200 := by have := hm.out; omega
    have c1 := hF.out.c1 hk
    have hpk := hP.out gk hk
    by_cases hp : par gk < 0
    · rw [pto_neg hp] at c1
      have hfin : Aside0 ((m : Int) = (up par i).length - 1) := ⟨by have := hm.out; rw [up_root hp] at this; simp at this; omega⟩
      clear hm
      go_wp2
      go_ret
      exact ⟨by rw [← hfin.out]; rfl, rfl⟩
    · rw [pto_pos (by omega)] at c1
      have hfin : Aside0 (m + 1 + (up par (par gk).toNat).length = (up par i).length) := ⟨by have := hm.out; rw [up_step (by omega) hpk] at this; simp at this; omega⟩
      clear hm
      go_wp2
      go_roundg (par gk).toNat
      case measure => omega
      case rel => exact ⟨m + 1, by omega, rfl, by go_num, hfin, ⟨rfl⟩⟩
theorem info52 : (Try.prog.info? 52).map (fun i => (i.zero, i.size, i.bytes)) = some (some (.pointer none), 1, 8) := by kernel_rfl
def ptrs (B : Nat → Nat) (l : List Nat) : List Value := l.map fun j => .pointer (some ⟨B j, 0, none⟩)
theorem one_cell_ptr (a : Option Addr) : ∀ u ∈ [Value.pointer a], u.oneCell' = true := by intro u hu; simp at hu; subst hu; rfl
theorem path_below {w wr w1 : World} {o : Obj} {v : Value} {e k : Nat} {xs : List Value} (hB : Below w.heap.size w wr) (hg : (wr.alloc o).grownBy w1 v.ownBlock) (ho : wr.ownsRow w.heap.size e 1 v k xs) : Below w.heap.size w w1 :=
  (hB.alloc hB.size o).grown hg (by have := hB.size; simp; omega) (fun k hk => (ho.lt k hk).1)
def Rd (w : World) (A : Option Addr) (xs : List Value) : Prop := ∀ i u, xs[i]? = some u → ∃ ad, A = some ad ∧ w.cell? (ad.add i) = some u
theorem Rd.below {w w' : World} {A : Option Addr} {xs : List Value} (h : Rd w A xs) (hB : Below w.heap.size w w') : Rd w' A xs := by
  intro i u hu
  obtain ⟨ad, e, hc⟩ := h i u hu
  exact ⟨ad, e, (hB.cell (World.block_lt_of_cell? w _ hc)).trans hc⟩
theorem Rd.drop {w : World} {A : Option Addr} {xs : List Value} {c : Nat} (h : Rd w A xs) (hc : xs.length ≤ c) : Rd w (if c = 1 then A else A.map (·.add (1 * 1))) (xs.drop 1) := by
  intro i u hu
  rw [List.getElem?_drop] at hu
  have hlt := (List.getElem?_eq_some_iff.1 hu).1
  rw [if_neg (by omega)]
  obtain ⟨ad, e, hc⟩ := h (1 + i) u hu
  refine ⟨ad.add 1, by rw [e]; rfl, ?_⟩
  rw [← hc]
  congr 1
  unfold Addr.add
  by_cases hi : i = 0
  · subst hi; simp
  · rw [if_neg hi, if_neg (by omega), if_neg (by omega)]; simp; omega
theorem rd_of_owns {w : World} {base n : Nat} {v : Value} {xs : List Value} (h : w.ownsRow base 52 1 v n xs) : ∃ A c, v = .slice A n c ∧ n ≤ c ∧ xs.length = n ∧ Rd w A xs := by
  have hl : xs.length = n := by have := h.1; omega
  rcases h.2 with ⟨e, hn⟩ | ⟨g, cap, cur, e, hb, hg, hn, r⟩
  · exact ⟨none, 0, by rw [e, hn], by omega, hl, fun i u hu => by have := (List.getElem?_eq_some_iff.1 hu).1; omega⟩
  · exact ⟨_, cap, e, hn, hl, fun i u hu => ⟨_, rfl, h.cells (g := g) (by rw [e]; rfl) i u hu⟩⟩
end Go.Proofs.Ytolcdkanebopiaa.Tree
