/- Proved here: what impl's indexes and drill give on a family of nodes. Conditions: each node's initial node has a greater number; at most 200 nodes. -/
import Derived.Test.YtolcdkanebopiaaRT5
import Derived.Outline
namespace Go.Proofs.Ytolcdkanebopiaa.Tree
open Go.RowKit Go.Proofs.YtolcdkanebopiaaW.PrintWords Go.Proofs.YtolcdkanebopiaaW.PrintLast Go.Proofs.YtolcdkanebopiaaW.PrintMore Go.Proofs.Ytolcdkanebopiaa.PFnExactDomain
set_option linter.unusedVariables false
set_option linter.unusedSimpArgs false
def nums (l : List Nat) : List Value := l.map fun (j : Nat) => Value.int .i64 (j : Int)
theorem one_cell_int (n : Int) : ∀ u ∈ [Value.int .i64 n], u.oneCell' = true := by intro u hu; simp at hu; subst hu; rfl
theorem take_next {l : List Nat} {m x : Nat} (h : l[m]? = some x) : l.take (m + 1) = l.take m ++ [x] := by
  rw [List.take_add_one, h]; rfl
theorem below_own {w wr w1 : World} {o : Obj} {v : Value} {t k s : Nat} {xs : List Value} (hB : Below w.heap.size w wr) (hg : (wr.alloc o).grownBy w1 v.ownBlock) (ho : wr.ownsRow w.heap.size t s v k xs) : Below w.heap.size w w1 :=
  (hB.alloc hB.size o).grown hg (by have := hB.size; simp; omega) (fun k hk => (ho.lt k hk).1)
def down (ini : Nat → Int) : Nat → Int → List Nat
  | 0, _ => []
  | k + 1, j => if j < 0 then [] else j.toNat :: down ini k (ini j.toNat)
theorem down_neg {ini : Nat → Int} {k : Nat} {j : Int} (h : j < 0) : down ini k j = [] := by
  cases k with
  | zero => rfl
  | succ k => rw [down, if_pos h]
theorem down_len (ini : Nat → Int) : ∀ k j, (down ini k j).length ≤ k
  | 0, j => Nat.le_refl _
  | k + 1, j => by
    rw [down]; split
    · exact Nat.zero_le _
    · have := down_len ini k (ini j.toNat); simp only [List.length_cons]; omega
theorem down_lt {ini : Nat → Int} {n : Nat} (hI : ∀ i, i < n → ini i < n) : ∀ k j, j < (n : Int) → ∀ x ∈ down ini k j, x < n
  | 0, j, _, x, hx => by simp [down] at hx
  | k + 1, j, hj, x, hx => by
    rw [down] at hx
    split at hx
    · simp at hx
    · rename_i h
      rcases List.mem_cons.1 hx with rfl | hx
      · omega
      · exact down_lt hI k (ini j.toNat) (hI _ (by omega)) x hx
set_option maxHeartbeats 4000000 in
set_option maxRecDepth 100000 in
theorem indexes_calls {w : World} {N : Nat} {B : Nat → Nat} {par ini : Nat → Int} {ch : Nat → Value} (hF0 : Fam w N B par ini ch) {A : Option Addr} {c : Nat} {l : List Nat} (hr0 : Rd w A (ptrs B l)) (hl0 : ∀ x ∈ l, x < N) (hn : l.length ≤ 200) :
    Calls Try.prog 31 #[.slice A l.length c] w fun e w' => ∃ v, e = .returned v ∧ w'.ownsRow w.heap.size 3 1 v l.length (nums l) ∧ Below w.heap.size w w' := by
  have hF := Aside0.mk hF0
  have hR := Aside0.mk hr0
  have hL := Aside0.mk hl0
  clear hF0 hr0 hl0
  obtain ⟨n, hnl⟩ : ∃ n, n = l.length := ⟨_, rfl⟩
  rw [← hnl] at hn ⊢
  have HN := Aside0.mk hnl
  clear hnl
  have hu46 := Try.underlying46
  have hu35 := Try.underlying35
  obtain ⟨i0, hi0, hz0, hz1, hz2⟩ := info_parts info3
  have HI := Aside0.mk hi0
  have HZ0 := Aside0.mk hz0
  have HZ1 := Aside0.mk hz1
  have HZ2 := Aside0.mk hz2
  clear hi0 hz0 hz1 hz2
  go_enter Try.func31, Try.ntmps31
  go_wp2
  go_loopg [3, 8] n (fun k v i wr => ∃ m : Nat, i = .int .i64 m ∧ m ≤ n ∧ Aside0 (k = n - m) ∧ Aside0 (wr.ownsRow w.heap.size 3 1 v m (nums (l.take m))) ∧ Aside0 (Below w.heap.size w wr))
  case atStart => exact ⟨0, rfl, Nat.zero_le _, ⟨rfl⟩, ⟨World.ownsRow_nil _ _ _ _⟩, ⟨Below.refl _ _⟩⟩
  case round =>
    obtain ⟨m, rfl, hm, hk, hown, hB⟩ := hrel
    by_cases hlt : m < n
    · obtain ⟨x, hx⟩ : ∃ x, l[m]? = some x := ⟨_, List.getElem?_eq_getElem (by rw [← HN.out]; exact hlt)⟩
      obtain ⟨ad, e1, hc⟩ := rd_ptr hR.out hx
      cases e1
      have hc' := (hB.out.cell (World.block_lt_of_cell? w _ hc)).trans hc
      have hxn := hL.out x (List.mem_of_getElem? hx)
      have c0 : wr.cell? ⟨B x, 0, none⟩ = some (.int .i64 x) := (hB.out.cell (hF.out.lt hxn)).trans (hF.out.c0 hxn)
      have HT := Aside0.mk (take_next hx)
      have hsz := hB.out.size
      clear hx hc
      go_wp2_with (at_builtin; refine wpList_append_own _ rfl _ _ 35 rfl w.heap.size 3 i0 (.int .i64 0) 1 8 Try.underlying35 HI.out HZ0.out HZ1.out HZ2.out rfl (by decide) _ _ _ rfl (hown.out.alloc _) ⟨wr.heap.size, 0, none⟩ 1 1 [.int .i64 x] rfl rfl (cell_one_new _ _ _) (one_cell_int _) (by unfold maxLen; omega) (by omega) (by simp; omega) ?_; intro v' w1 hown' hgrow hnil; clear hnil; have hown2 := Aside0.mk hown'; have hB2 := Aside0.mk (below_own hB.out hgrow hown.out); clear hown' hgrow hown hB c0 hc')
      go_roundg (n - (m + 1))
      case measure => have := hk.out; omega
      case rel => exact ⟨m + 1, by go_num, by omega, ⟨rfl⟩, ⟨by rw [HT.out]; simpa [nums] using hown2.out⟩, hB2⟩
    · obtain rfl : m = n := by omega
      go_wp2
      go_ret
      exact ⟨_, rfl, by have := hown.out; rw [HN.out, List.take_length] at this; rw [HN.out]; exact this, hB.out⟩
set_option maxHeartbeats 4000000 in
set_option maxRecDepth 100000 in
theorem drill_calls {w : World} {n : Nat} {B : Nat → Nat} {par ini : Nat → Int} {ch : Nat → Value} (hF0 : Fam w n B par ini ch) (hI0 : ∀ i, i < n → ini i < n ∧ (ini i < 0 ∨ i < ini i)) (hn : n ≤ 200) (i : Nat) (hi : i < n) :
    Calls Try.prog 37 #[.pointer (some ⟨B i, 0, none⟩)] w fun e w' => ∃ v, e = .returned v ∧ w'.ownsRow w.heap.size 52 1 v (down ini n (ini i)).length (ptrs B (down ini n (ini i))) ∧ Below w.heap.size w w' := by
  have hF := Aside0.mk hF0
  have hI := Aside0.mk hI0
  have hl := down_len ini n (ini i)
  have c2 : w.cell? ⟨B i, 2, none⟩ = some (.pointer (pto B (ini i))) := hF.out.c2 hi
  have hi1 := (hI0 i hi).1
  clear hF0 hI0
  obtain ⟨D, hD⟩ : ∃ D, D = down ini n (ini i) := ⟨_, rfl⟩
  have HD := Aside0.mk hD.symm
  rw [← hD] at hl ⊢
  obtain ⟨j0, hj0⟩ : ∃ j, j = ini i := ⟨_, rfl⟩
  rw [← hj0] at HD c2 hi1
  clear hD hj0
  have hu46 := Try.underlying46
  obtain ⟨i0, hi0, hz0, hz1, hz2⟩ := info_parts info52
  have HI := Aside0.mk hi0
  have HZ0 := Aside0.mk hz0
  have HZ1 := Aside0.mk hz1
  have HZ2 := Aside0.mk hz2
  clear hi0 hz0 hz1 hz2
  go_enter Try.func37, Try.ntmps37
  go_wp2
  go_loopg [0, 3] n (fun k p v wr => ∃ (j : Int) (done : List Nat), p = .pointer (pto B j) ∧ j < n ∧ Aside0 (j < 0 ∨ (n : Int) ≤ k + j) ∧ Aside0 (done ++ down ini k j = D) ∧ Aside0 (wr.ownsRow w.heap.size 52 1 v done.length (ptrs B done)) ∧ Aside0 (Below w.heap.size w wr))
  case atStart => exact ⟨j0, [], rfl, hi1, ⟨by omega⟩, HD, ⟨World.ownsRow_nil _ _ _ _⟩, ⟨Below.refl _ _⟩⟩
  case round =>
    obtain ⟨j, done, rfl, hj, hk, hd, hown, hB⟩ := hrel
    by_cases hp : j < 0
    · rw [pto_neg hp]
      have hd2 : done = D := by have := hd.out; rw [down_neg hp, List.append_nil] at this; exact this
      have hfin := Aside0.mk (show wr.ownsRow w.heap.size 52 1 u3 D.length (ptrs B D) from by rw [← hd2]; exact hown.out)
      clear hd2 hd hown
      go_wp2
      go_ret
      exact ⟨u3, rfl, hfin.out, hB.out⟩
    · rw [pto_pos (by omega)]
      have hjn : j.toNat < n := by omega
      obtain ⟨k', rfl⟩ : ∃ k', gk = k' + 1 := ⟨gk - 1, by have := hk.out; omega⟩
      have hpj := hI.out j.toNat hjn
      have hs : down ini (k' + 1) j = j.toNat :: down ini k' (ini j.toNat) := by rw [down, if_neg hp]
      have hlen : done.length ≤ 200 := by have := congrArg List.length hd.out; rw [List.length_append] at this; omega
      have hd2 := Aside0.mk (show (done ++ [j.toNat]) ++ down ini k' (ini j.toNat) = D from by rw [List.append_assoc, ← hd.out, hs]; rfl)
      clear hs hd
      have hk2 := Aside0.mk (show ini j.toNat < 0 ∨ (n : Int) ≤ k' + ini j.toNat from by have := hk.out; omega)
      clear hk
      have c1 : wr.cell? ⟨B j.toNat, 2, none⟩ = some (.pointer (pto B (ini j.toNat))) := (hB.out.cell (hF.out.lt hjn)).trans (hF.out.c2 hjn)
      have hsz := hB.out.size
      go_wp2_with (at_builtin; refine wpList_append_own _ rfl _ _ 46 rfl w.heap.size 52 i0 (.pointer none) 1 8 Try.underlying46 HI.out HZ0.out HZ1.out HZ2.out rfl (by decide) _ _ _ rfl (hown.out.alloc _) ⟨wr.heap.size, 0, none⟩ 1 1 [.pointer (some ⟨B j.toNat, 0, none⟩)] rfl rfl (cell_one_new _ _ _) (one_cell_ptr _) (by unfold maxLen; omega) (by omega) (by simp; omega) ?_; intro v' w1 hown' hgrow hnil; clear hnil; have hown2 := Aside0.mk hown'; have hB2 := Aside0.mk (path_below hB.out hgrow hown.out); have c2 : w1.cell? ⟨B j.toNat, 2, none⟩ = some (.pointer (pto B (ini j.toNat))) := (hB2.out.cell (hF.out.lt hjn)).trans (hF.out.c2 hjn); clear hown' hgrow hown hB c1)
      go_roundg k'
      case measure => omega
      case rel => exact ⟨ini j.toNat, done ++ [j.toNat], rfl, hpj.1, hk2, hd2, ⟨by simpa [ptrs] using hown2.out⟩, hB2⟩
end Go.Proofs.Ytolcdkanebopiaa.Tree
