/- Proved here: what impl's indexes and drill give on a family of nodes. Conditions: each node's initial node has a greater number; at most 200 nodes. -/
import Derived.Test.YtolcdkanebopiaaAT5
import Derived.Outline
namespace Go.Proofs.Ytolcdkanebopiaa.Tree
open Go.RowKit Go.Proofs.YtolcdkanebopiaaW.PrintWords Go.Proofs.YtolcdkanebopiaaW.PrintLast Go.Proofs.YtolcdkanebopiaaW.PrintMore Go.Proofs.Ytolcdkanebopiaa.PFnExactDomain
set_option linter.unusedVariables false
set_option linter.unusedSimpArgs false
def nums (l : List Nat) : List Value := l.map fun (j : Nat) => Value.int .i64 (j : Int)
theorem one_cell_int (n : Int) : ∀ u ∈ [Value.int .i64 n], u.oneCell' = true := by intro u hu; simp at hu; subst hu; rfl
theorem take_next {l : List Nat} {m x : Nat} (h : l[m]? = some x) : l.take (m + 1) = l.take m ++ [x] := by
  rw [List.take_add_one, h]; rfl
theorem below_own {w wr w1 : World} {o : Obj} {v : Value} {t k s : Nat} {xs : List Value} (hB : Below w.heap.size w wr) (hg : (wr.alloc o).grownBy w1 v.ownBlock) (ho : wr.ownsRow w.heap.size t s v k xs) : Below w.heap.size w w1 :=
  (hB.alloc hB.size o).grown hg (by have := hB.size; simp; omega) (fun k hk => (ho.lt k hk).1)
set_option maxHeartbeats 4000000 in
set_option maxRecDepth 100000 in
theorem indexes_calls {w : World} {N : Nat} {B : Nat → Nat} {par ini : Nat → Int} {ch : Nat → Value} (hF0 : Fam w N B par ini ch) {A : Option Addr} {c : Nat} {l : List Nat} (hr0 : Rd w A (ptrs B l)) (hl0 : ∀ x ∈ l, x < N) (hn : l.length ≤ 200) :
    Calls Try.prog 31 #[.slice A l.length c] w fun e w' => ∃ v, e = .returned v ∧ w'.ownsRow w.heap.size 3 1 v l.length (nums l) ∧ Below w.heap.size w w' := by
  have hF := Aside0.mk hF0
  have hR := Aside0.mk hr0
  have hL := Aside0.mk hl0
  clear hF0 hr0 hl0
  obtain ⟨n, hnl⟩ : ∃ n, n = l.length := ⟨_, rfl⟩
  rw [← hnl] at hn ⊢
  have HN := Aside0.mk hnl
  clear hnl
  have hu46 := Try.underlying46
  have hu35 := Try.underlying35
  obtain ⟨i0, hi0, hz0, hz1, hz2⟩ := info_parts info3
  have HI := Aside0.mk hi0
  have HZ0 := Aside0.mk hz0
  have HZ1 := Aside0.mk hz1
  have HZ2 := Aside0.mk hz2
  clear hi0 hz0 hz1 hz2
  go_enter Try.func31, Try.ntmps31
  go_wp2
  go_loopg [3, 8] n (fun k v i wr => ∃ m : Nat, i = .int .i64 m ∧ m ≤ n ∧ Aside0 (k = n - m) ∧ Aside0 (wr.ownsRow w.heap.size 3 1 v m (nums (l.take m))) ∧ Aside0 (Below w.heap.size w wr))
  case atStart => exact ⟨0, rfl, Nat.zero_le _, ⟨rfl⟩, ⟨World.ownsRow_nil _ _ _ _⟩, ⟨Below.refl _ _⟩⟩
  case round =>
    obtain ⟨m, rfl, hm, hk, hown, hB⟩ := hrel
    by_cases hlt : m < n
    · obtain ⟨x, hx⟩ : ∃ x, l[m]? = some x := ⟨_, List.getElem?_eq_getElem (by rw [← HN.out]; exact hlt)⟩
      obtain ⟨ad, e1, hc⟩ := rd_ptr hR.out hx
      cases e1
      have hc' := (hB.out.cell (World.block_lt_of_cell? w _ hc)).trans hc
      have hxn := hL.out x (List.mem_of_getElem? hx)
      have c0 : wr.cell? ⟨B x, 0, none⟩ = some (.int .i64 x) := (hB.out.cell (hF.out.lt hxn)).trans (hF.out.c0 hxn)
      have HT := Aside0.mk (take_next hx)
      have hsz := hB.out.size
      clear hx hc
      go_wp2_with (at_builtin; refine wpList_append_own _ rfl _ _ 35 rfl w.heap.size 3 i0 (.int .i64 0) 1 8 Try.underlying35 HI.out HZ0.out HZ1.out HZ2.out rfl (by decide) _ _ _ rfl (hown.out.alloc _) ⟨wr.heap.size, 0, none⟩ 1 1 [.int .i64 x] rfl rfl (cell_one_new _ _ _) (one_cell_int _) (by unfold maxLen; omega) (by omega) (by simp; omega) ?_; intro v' w1 hown' hgrow hnil; clear hnil; have hown2 := Aside0.mk hown'; have hB2 := Aside0.mk (below_own hB.out hgrow hown.out); clear hown' hgrow hown hB c0 hc')
      go_roundg (n - (m + 1))
      case measure => have := hk.out; omega
      case rel => exact ⟨m + 1, by go_num, by omega, ⟨rfl⟩, ⟨by rw [HT.out]; simpa [nums] using hown2.out⟩, hB2⟩
    · obtain rfl : m = n := by omega
      go_wp2
      go_ret
      exact ⟨_, rfl, by have := hown.out; rw [HN.out, List.take_length] at this; rw [HN.out]; exact this, hB.out⟩
end Go.Proofs.Ytolcdkanebopiaa.Tree
