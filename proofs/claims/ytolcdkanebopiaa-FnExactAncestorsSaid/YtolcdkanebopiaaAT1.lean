/- Proved here: what impl's node functions depth and path give on a family of nodes that lies in memory: the number of ancestors, a fresh slice of the nodes from a node up to the root. Conditions: each node's parent has a smaller number; at most 200 nodes. -/
import Derived.Test.YtolcdkanebopiaaAB5
import Derived.Test.YtolcdkanebopiaaAX9
namespace Go.Proofs.Ytolcdkanebopiaa.Tree
open Go.RowKit Go.Proofs.YtolcdkanebopiaaW.PrintWords Go.Proofs.YtolcdkanebopiaaW.PrintLast Go.Proofs.YtolcdkanebopiaaW.PrintMore Go.Proofs.Ytolcdkanebopiaa.PFnExactDomain
set_option linter.unusedVariables false
set_option linter.unusedSimpArgs false
def pto (B : Nat → Nat) (j : Int) : Option Addr := if j < 0 then none else some ⟨B j.toNat, 0, none⟩
theorem pto_neg {B : Nat → Nat} {j : Int} (h : j < 0) : pto B j = none := if_pos h
theorem pto_pos {B : Nat → Nat} {j : Int} (h : 0 ≤ j) : pto B j = some ⟨B j.toNat, 0, none⟩ := if_neg (by omega)
def nodeObj (B : Nat → Nat) (i : Nat) (p q : Int) (c : Value) : Obj := .cells #[.int .i64 i, .pointer (pto B p), .pointer (pto B q), c] 55 (0, 0)
def Fam (w : World) (n : Nat) (B : Nat → Nat) (par ini : Nat → Int) (ch : Nat → Value) : Prop := ∀ i, i < n → w.heap[B i]? = some (nodeObj B i (par i) (ini i) (ch i))
theorem blkc {w : World} {b : Nat} {cs : Array Value} {t : TypeId} (h : w.heap[b]? = some (.cells cs t (0, 0))) (i : Nat) : w.cell? ⟨b, i, none⟩ = cs[i]? := by
  simp [World.cell?, h]
theorem blkf {w : World} {b : Nat} {cs : Array Value} {t : TypeId} (h : w.heap[b]? = some (.cells cs t (0, 0))) (i : Nat) : w.frozen? ⟨b, i, none⟩ = false := by
  simp [World.frozen?, h]
section
variable {w : World} {n : Nat} {B : Nat → Nat} {par ini : Nat → Int} {ch : Nat → Value}
theorem Fam.c0 (h : Fam w n B par ini ch) {i : Nat} (hi : i < n) : w.cell? ⟨B i, 0, none⟩ = some (.int .i64 i) := (blkc (h i hi) 0).trans rfl
theorem Fam.c1 (h : Fam w n B par ini ch) {i : Nat} (hi : i < n) : w.cell? ⟨B i, 1, none⟩ = some (.pointer (pto B (par i))) := (blkc (h i hi) 1).trans rfl
theorem Fam.c2 (h : Fam w n B par ini ch) {i : Nat} (hi : i < n) : w.cell? ⟨B i, 2, none⟩ = some (.pointer (pto B (ini i))) := (blkc (h i hi) 2).trans rfl
theorem Fam.c3 (h : Fam w n B par ini ch) {i : Nat} (hi : i < n) : w.cell? ⟨B i, 3, none⟩ = some (ch i) := (blkc (h i hi) 3).trans rfl
theorem Fam.lt (h : Fam w n B par ini ch) {i : Nat} (hi : i < n) : B i < w.heap.size := (Array.getElem?_eq_some_iff.1 (h i hi)).1
end
def up (par : Nat → Int) (i : Nat) : List Nat := if h : 0 ≤ par i ∧ (par i).toNat < i then i :: up par (par i).toNat else [i]
termination_by i
decreasing_by exact h.2
theorem up_root {par : Nat → Int} {i : Nat} (h : par i < 0) : up par i = [i] := by rw [up, dif_neg (by omega)]
theorem up_step {par : Nat → Int} {i : Nat} (h : 0 ≤ par i) (hl : par i < i) : up par i = i :: up par (par i).toNat := by rw [up, dif_pos (by omega)]
theorem up_pos (par : Nat → Int) (i : Nat) : 1 ≤ (up par i).length := by
  rw [up]; split <;> simp
theorem up_len (par : Nat → Int) : ∀ n i, i ≤ n → (up par i).length ≤ i + 1 := by
  intro n
  induction n with
  | zero => intro i hi; obtain rfl : i = 0 := by omega
            rw [up, dif_neg (by omega)]; simp
  | succ n ih =>
    intro i hi
    rw [up]
    split
    · rename_i h
      have := ih (par i).toNat (by omega)
      simp only [List.length_cons]; omega
    · simp
set_option maxHeartbeats 400000 in
theorem depth_calls {w : World} {n : Nat} {B : Nat → Nat} {par ini : Nat → Int} {ch : Nat → Value} (hF0 : Fam w n B par ini ch) (hP0 : ∀ i, i < n → par i < i) (hn : n ≤ 200) (i : Nat) (hi : i < n) :
    Calls Try.prog 46 #[.pointer (some ⟨B i, 0, none⟩)] w fun e w' => e = .returned (.int .i64 ((up par i).length - 1)) ∧ w = w' := by
  have hF := Aside0.mk hF0
  have hP := Aside0.mk hP0
  have hl := up_len par i i (Nat.le_refl _)
  clear hF0 hP0
  go_enter Try.func46, Try.ntmps46
  go_wp2
  go_loopg [0, 3] i (fun k p d wr => ∃ m : Nat, k < n ∧ p = .pointer (some ⟨B k, 0, none⟩) ∧ d = .int .i64 m ∧ Aside0 (m + (up par k).length = (up par i).length) ∧ Aside0 (w = wr))
  case atStart => exact ⟨0, hi, rfl, rfl, ⟨by omega⟩, ⟨rfl⟩⟩
  case round =>
    obtain ⟨m, hk, rfl, rfl, hm, hw⟩ := hrel
    obtain rfl := hw.out
    clear hw
    have hb : m ≤ 200 := by have := hm.out; omega
    have c1 := hF.out.c1 hk
    have hpk := hP.out gk hk
    by_cases hp : par gk < 0
    · rw [pto_neg hp] at c1
      have hfin : Aside0 ((m : Int) = (up par i).length - 1) := ⟨by have := hm.out; rw [up_root hp] at this; simp at this; omega⟩
      clear hm
      go_wp2
      go_ret
      exact ⟨by rw [← hfin.out]; rfl, rfl⟩
    · rw [pto_pos (by omega)] at c1
      have hfin : Aside0 (m + 1 + (up par (par gk).toNat).length = (up par i).length) := ⟨by have := hm.out; rw [up_step (by omega) hpk] at this; simp at this; omega⟩
      clear hm
      go_wp2
      go_roundg (par gk).toNat
      case measure => omega
      case rel => exact ⟨m + 1, by omega, rfl, by go_num, hfin, ⟨rfl⟩⟩
theorem info52 : (Try.prog.info? 52).map (fun i => (i.zero, i.size, i.bytes)) = some (some (.pointer none), 1, 8) := by kernel_rfl
def ups (par : Nat → Int) (j : Int) : List Nat := if j < 0 then [] else up par j.toNat
theorem ups_neg {par : Nat → Int} {j : Int} (h : j < 0) : ups par j = [] := if_pos h
theorem ups_pos {par : Nat → Int} {j : Int} (h : 0 ≤ j) : ups par j = up par j.toNat := if_neg (by omega)
theorem ups_step {par : Nat → Int} {j : Int} (h : 0 ≤ j) (hl : par j.toNat < j) : ups par j = j.toNat :: ups par (par j.toNat) := by
  rw [ups_pos h]
  by_cases hp : par j.toNat < 0
  · rw [up_root hp, ups_neg hp]
  · rw [up_step (by omega) (by omega), ups_pos (by omega)]
theorem ups_len (par : Nat → Int) (j : Int) : (ups par j).length ≤ (j + 1).toNat := by
  by_cases h : j < 0
  · rw [ups_neg h]; simp
  · rw [ups_pos (by omega)]; have := up_len par j.toNat j.toNat (Nat.le_refl _); omega
def ptrs (B : Nat → Nat) (l : List Nat) : List Value := l.map fun j => .pointer (some ⟨B j, 0, none⟩)
theorem one_cell_ptr (a : Option Addr) : ∀ u ∈ [Value.pointer a], u.oneCell' = true := by intro u hu; simp at hu; subst hu; rfl
theorem path_below {w wr w1 : World} {o : Obj} {v : Value} {e k : Nat} {xs : List Value} (hB : Below w.heap.size w wr) (hg : (wr.alloc o).grownBy w1 v.ownBlock) (ho : wr.ownsRow w.heap.size e 1 v k xs) : Below w.heap.size w w1 :=
  (hB.alloc hB.size o).grown hg (by have := hB.size; simp; omega) (fun k hk => (ho.lt k hk).1)
set_option maxHeartbeats 400000 in
theorem path_calls {w : World} {n : Nat} {B : Nat → Nat} {par ini : Nat → Int} {ch : Nat → Value} (hF0 : Fam w n B par ini ch) (hP0 : ∀ i, i < n → par i < i) (hn : n ≤ 200) (j0 : Int) (hi : j0 < n) :
    Calls Try.prog 33 #[.pointer (pto B j0)] w fun e w' => ∃ v, e = .returned v ∧ w'.ownsRow w.heap.size 52 1 v (ups par j0).length (ptrs B (ups par j0)) ∧ Below w.heap.size w w' := by
  have hF := Aside0.mk hF0
  have hP := Aside0.mk hP0
  have hl := ups_len par j0
  clear hF0 hP0
  have hu46 := Try.underlying46
  obtain ⟨i0, hi0, hz0, hz1, hz2⟩ := info_parts info52
  have HI := Aside0.mk hi0
  have HZ0 := Aside0.mk hz0
  have HZ1 := Aside0.mk hz1
  have HZ2 := Aside0.mk hz2
  clear hi0 hz0 hz1 hz2
  go_enter Try.func33, Try.ntmps33
  go_wp2
  go_loopg [0, 3] (j0 + 1).toNat (fun k p v wr => ∃ (j : Int) (done : List Nat), p = .pointer (pto B j) ∧ j < n ∧ Aside0 (k = (j + 1).toNat) ∧ Aside0 (done ++ ups par j = ups par j0) ∧ Aside0 (wr.ownsRow w.heap.size 52 1 v done.length (ptrs B done)) ∧ Aside0 (Below w.heap.size w wr))
  case atStart => exact ⟨j0, [], rfl, hi, ⟨rfl⟩, ⟨rfl⟩, ⟨World.ownsRow_nil _ _ _ _⟩, ⟨Below.refl _ _⟩⟩
  case round =>
    obtain ⟨j, done, rfl, hj, hk, hd, hown, hB⟩ := hrel
    by_cases hp : j < 0
    · rw [pto_neg hp]
      have hd2 : done = ups par j0 := by have := hd.out; rw [ups_neg hp, List.append_nil] at this; exact this
      have hfin := Aside0.mk (show wr.ownsRow w.heap.size 52 1 u3 (ups par j0).length (ptrs B (ups par j0)) from by rw [← hd2]; exact hown.out)
      clear hd2 hd hown
      go_wp2
      go_ret
      exact ⟨u3, rfl, hfin.out, hB.out⟩
    · rw [pto_pos (by omega)]
      have hjn : j.toNat < n := by omega
      have hpj := hP.out j.toNat hjn
      have hs := ups_step (par := par) (j := j) (by omega) (by omega)
      have hlen : done.length ≤ 200 := by have := congrArg List.length hd.out; rw [List.length_append] at this; omega
      have hd2 := Aside0.mk (show (done ++ [j.toNat]) ++ ups par (par j.toNat) = ups par j0 from by rw [List.append_assoc, ← hd.out, hs]; rfl)
      clear hs hd
      have c1 : wr.cell? ⟨B j.toNat, 1, none⟩ = some (.pointer (pto B (par j.toNat))) := (hB.out.cell (hF.out.lt hjn)).trans (hF.out.c1 hjn)
      have hsz := hB.out.size
      go_wp2_with (at_builtin; refine wpList_append_own _ rfl _ _ 46 rfl w.heap.size 52 i0 (.pointer none) 1 8 Try.underlying46 HI.out HZ0.out HZ1.out HZ2.out rfl (by decide) _ _ _ rfl (hown.out.alloc _) ⟨wr.heap.size, 0, none⟩ 1 1 [.pointer (some ⟨B j.toNat, 0, none⟩)] rfl rfl (cell_one_new _ _ _) (one_cell_ptr _) (by unfold maxLen; omega) (by omega) (by simp; omega) ?_; intro v' w1 hown' hgrow hnil; clear hnil; have hown2 := Aside0.mk hown'; have hB2 := Aside0.mk (path_below hB.out hgrow hown.out); have c2 : w1.cell? ⟨B j.toNat, 1, none⟩ = some (.pointer (pto B (par j.toNat))) := (hB2.out.cell (hF.out.lt hjn)).trans (hF.out.c1 hjn); clear hown' hgrow hown hB c1)
      go_roundg (par j.toNat + 1).toNat
      case measure => have := hk.out; omega
      case rel => exact ⟨par j.toNat, done ++ [j.toNat], rfl, by omega, ⟨rfl⟩, hd2, ⟨by simpa [ptrs] using hown2.out⟩, hB2⟩
def Rd (w : World) (A : Option Addr) (xs : List Value) : Prop := ∀ i u, xs[i]? = some u → ∃ ad, A = some ad ∧ w.cell? (ad.add i) = some u
theorem Rd.below {w w' : World} {A : Option Addr} {xs : List Value} (h : Rd w A xs) (hB : Below w.heap.size w w') : Rd w' A xs := by
  intro i u hu
  obtain ⟨ad, e, hc⟩ := h i u hu
  exact ⟨ad, e, (hB.cell (World.block_lt_of_cell? w _ hc)).trans hc⟩
theorem Rd.drop {w : World} {A : Option Addr} {xs : List Value} {c : Nat} (h : Rd w A xs) (hc : xs.length ≤ c) : Rd w (if c = 1 then A else A.map (·.add (1 * 1))) (xs.drop 1) := by
  intro i u hu
  rw [List.getElem?_drop] at hu
  have hlt := (List.getElem?_eq_some_iff.1 hu).1
  rw [if_neg (by omega)]
  obtain ⟨ad, e, hc⟩ := h (1 + i) u hu
  refine ⟨ad.add 1, by rw [e]; rfl, ?_⟩
  rw [← hc]
  congr 1
  unfold Addr.add
  by_cases hi : i = 0
  · subst hi; simp
  · rw [if_neg hi, if_neg (by omega), if_neg (by omega)]; simp; omega
theorem rd_of_owns {w : World} {base n : Nat} {v : Value} {xs : List Value} (h : w.ownsRow base 52 1 v n xs) : ∃ A c, v = .slice A n c ∧ n ≤ c ∧ xs.length = n ∧ Rd w A xs := by
  have hl : xs.length = n := by have := h.1; omega
  rcases h.2 with ⟨e, hn⟩ | ⟨g, cap, cur, e, hb, hg, hn, r⟩
  · exact ⟨none, 0, by rw [e, hn], by omega, hl, fun i u hu => by have := (List.getElem?_eq_some_iff.1 hu).1; omega⟩
  · exact ⟨_, cap, e, hn, hl, fun i u hu => ⟨_, rfl, h.cells (g := g) (by rw [e]; rfl) i u hu⟩⟩
theorem path_read {w : World} {n : Nat} {B : Nat → Nat} {par ini : Nat → Int} {ch : Nat → Value} (hF0 : Fam w n B par ini ch) (hP0 : ∀ i, i < n → par i < i) (hn : n ≤ 200) (i : Nat) (hi : i < n) :
    Calls Try.prog 33 #[.pointer (some ⟨B i, 0, none⟩)] w fun e w' => ∃ A c, e = .returned (.slice A (up par i).length c) ∧ (up par i).length ≤ c ∧ Rd w' A (ptrs B (up par i)) ∧ Below w.heap.size w w' := by
  have h := path_calls hF0 hP0 hn (i : Int) (by omega)
  rw [pto_pos (by omega), ups_pos (by omega), Int.toNat_natCast] at h
  refine h.mono ?_
  rintro e w' ⟨v, rfl, ho, hb⟩
  obtain ⟨A, c, rfl, hc, _, hr⟩ := rd_of_owns ho
  exact ⟨A, c, rfl, hc, hr, hb⟩
end Go.Proofs.Ytolcdkanebopiaa.Tree
