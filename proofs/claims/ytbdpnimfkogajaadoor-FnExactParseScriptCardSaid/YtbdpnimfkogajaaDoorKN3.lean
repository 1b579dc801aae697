/- Proved here: what impl's split gives: the pieces of a line between its spaces. Condition: the line is at most 2^20 bytes long. -/
import Derived.Test.YtbdpnimfkogajaaDoorKN2
import Derived.Deep.AppendLies
import Derived.Deep.QuietTactic
import Derived.BigQuiet
namespace Go.Proofs.YtbdpnimfkogajaaDoor.Txt
open Go.RowKit Go.Proofs.YtbdpnimfkogajaaDoorW.PrintWords Go.Proofs.YtbdpnimfkogajaaDoorW.PrintLast Go.Proofs.YtbdpnimfkogajaaDoorW.PrintMore Go.Proofs.YtbdpnimfkogajaaDoor.PFnExactParseScript
set_option linter.unusedVariables false
def pieces (s : ByteArray) (c : UInt8) : Nat → Nat → Nat → List ByteArray
  | 0, _, _ => []
  | k + 1, fr, i => if h : i < s.size then (if s[i] = c then s.extract fr i :: pieces s c k (i + 1) (i + 1) else pieces s c k fr (i + 1)) else [s.extract fr s.size]
theorem pieces_end {s : ByteArray} {c : UInt8} {k fr i : Nat} (h : ¬ i < s.size) : pieces s c (k + 1) fr i = [s.extract fr s.size] := by rw [pieces, dif_neg h]
theorem pieces_cut {s : ByteArray} {c : UInt8} {k fr i : Nat} (h : i < s.size) (hc : s[i] = c) : pieces s c (k + 1) fr i = s.extract fr i :: pieces s c k (i + 1) (i + 1) := by rw [pieces, dif_pos h, if_pos hc]
theorem pieces_on {s : ByteArray} {c : UInt8} {k fr i : Nat} (h : i < s.size) (hc : ¬ s[i] = c) : pieces s c (k + 1) fr i = pieces s c k fr (i + 1) := by rw [pieces, dif_pos h, if_neg hc]
theorem pieces_len (s : ByteArray) (c : UInt8) : ∀ k fr i, (pieces s c k fr i).length ≤ k := by
  intro k
  induction k with
  | zero => intro fr i; exact Nat.le_refl _
  | succ k ih =>
    intro fr i
    rw [pieces]
    split
    · split
      · have := ih (i + 1) (i + 1); simp only [List.length_cons]; omega
      · have := ih fr (i + 1); omega
    · simp
def strs (l : List ByteArray) : List Value := l.map Value.string
theorem one_cell_str (s : ByteArray) : ∀ u ∈ [Value.string s], u.oneCell' = true := by intro u hu; simp at hu; subst hu; rfl
theorem info9 : (Tryd.prog.info? 9).map (fun i => (i.zero, i.size, i.bytes)) = some (some (.string ⟨#[]⟩), 1, 16) := by kernel_rfl
theorem below_own {w wr w1 : World} {o : Obj} {v : Value} {t k s : Nat} {xs : List Value} (hB : Below w.heap.size w wr) (hg : (wr.alloc o).grownBy w1 v.ownBlock) (ho : wr.ownsRow w.heap.size t s v k xs) : Below w.heap.size w w1 :=
  (hB.alloc hB.size o).grown hg (by have := hB.size; simp; omega) (fun k hk => (ho.lt k hk).1)
theorem byte_is {b : UInt8} (h : ((b.toNat : Nat) : Int) = 32) : b = 32 := by
  have : b.toNat = 32 := by omega
  exact UInt8.toNat_inj.1 this
set_option maxHeartbeats 800000 in
set_option maxRecDepth 100000 in
theorem split_calls {w : World} (s : ByteArray) (hs : s.size ≤ 1048576) :
    Calls Tryd.prog 26 #[.string s] w fun e w' => ∃ v, e = .returned v ∧ w'.ownsRow w.heap.size 9 1 v (pieces s 32 (s.size + 1) 0 0).length (strs (pieces s 32 (s.size + 1) 0 0)) ∧ Below w.heap.size w w' := by
  have hl := pieces_len s 32 (s.size + 1) 0 0
  obtain ⟨P, hP⟩ : ∃ P, P = pieces s 32 (s.size + 1) 0 0 := ⟨_, rfl⟩
  have HP := Aside0.mk hP.symm
  rw [← hP] at hl ⊢
  clear hP
  have hu28 := Tryd.underlying28
  obtain ⟨i0, hi0, hz0, hz1, hz2⟩ := info_parts info9
  have HI := Aside0.mk hi0
  have HZ0 := Aside0.mk hz0
  have HZ1 := Aside0.mk hz1
  have HZ2 := Aside0.mk hz2
  clear hi0 hz0 hz1 hz2
  go_enter Tryd.func26, Tryd.ntmps26
  go_wp2_with fail
  go_step3
  go_wp2_with fail
  go_step3
  go_wp2_with fail
  go_loopg [3, 4, 5] (s.size + 1) (fun g out from_ i wr => ∃ (fr m : Nat) (done : List ByteArray), from_ = .int .i64 fr ∧ i = .int .i64 m ∧ fr ≤ m ∧ m ≤ s.size ∧ Aside0 (g = s.size + 1 - m) ∧ Aside0 (done ++ pieces s 32 (s.size + 1 - m) fr m = P) ∧ Aside0 (wr.ownsRow w.heap.size 9 1 out done.length (strs done)) ∧ Aside0 (Below w.heap.size w wr))
  case atStart => exact ⟨0, 0, [], rfl, rfl, Nat.le_refl _, Nat.zero_le _, ⟨rfl⟩, ⟨HP.out⟩, ⟨World.ownsRow_nil _ _ _ _⟩, ⟨Below.refl _ _⟩⟩
  case round =>
    obtain ⟨fr, m, done, rfl, rfl, hfm, hm, hg, hd, hown, hB⟩ := hrel
    have hsz := hB.out.size
    obtain ⟨k, hk⟩ : ∃ k, s.size + 1 - m = k + 1 := ⟨s.size - m, by omega⟩
    have hdl : done.length ≤ s.size + 1 := by have := congrArg List.length hd.out; rw [List.length_append] at this; omega
    by_cases hlt : m < s.size
    · by_cases hc : ((s[m].toNat : Nat) : Int) = 32
      · have hd2 := Aside0.mk (show (done ++ [s.extract fr m]) ++ pieces s 32 k (m + 1) (m + 1) = P from by rw [List.append_assoc, ← hd.out, hk, pieces_cut hlt (byte_is hc)]; rfl)
        clear hd
        go_wp2_with (first | (at_builtin; refine wpList_append_own _ rfl _ _ 28 rfl w.heap.size 9 i0 (.string ⟨#[]⟩) 1 16 Tryd.underlying28 HI.out HZ0.out HZ1.out HZ2.out rfl (by decide) _ _ _ rfl (hown.out.alloc _) ⟨wr.heap.size, 0, none⟩ 1 1 [.string (s.extract fr m)] rfl rfl (cell_one_new _ _ _) (one_cell_str _) (by unfold maxLen; omega) (by omega) (by simp; omega) ?_; intro v' w1 hown' hgrow hnil; clear hnil; have hown2 := Aside0.mk hown'; have hB2 := Aside0.mk (below_own hB.out hgrow hown.out); clear hown' hgrow hown hB))
        go_roundg (s.size + 1 - (m + 1))
        case measure => have := hg.out; omega
        case rel => exact ⟨m + 1, m + 1, done ++ [s.extract fr m], by go_num, by go_num, by omega, by omega, ⟨rfl⟩, ⟨by rw [show s.size + 1 - (m + 1) = k by omega]; exact hd2.out⟩, ⟨by simpa [strs] using hown2.out⟩, hB2⟩
      · have hd2 := Aside0.mk (show done ++ pieces s 32 k fr (m + 1) = P from by rw [← hd.out, hk, pieces_on hlt (fun h => hc (by rw [h]; rfl))])
        clear hd
        go_wp2_with fail
        go_roundg (s.size + 1 - (m + 1))
        case measure => have := hg.out; omega
        case rel => exact ⟨fr, m + 1, done, rfl, by go_num, by omega, by omega, ⟨rfl⟩, ⟨by rw [show s.size + 1 - (m + 1) = k by omega]; exact hd2.out⟩, hown, hB⟩
    · obtain rfl : m = s.size := by omega
      have hd2 := Aside0.mk (show done ++ [s.extract fr s.size] = P from by rw [← hd.out, hk, pieces_end hlt])
      clear hd
      go_wp2_with (first | (at_builtin; refine wpList_append_own _ rfl _ _ 28 rfl w.heap.size 9 i0 (.string ⟨#[]⟩) 1 16 Tryd.underlying28 HI.out HZ0.out HZ1.out HZ2.out rfl (by decide) _ _ _ rfl (hown.out.alloc _) ⟨wr.heap.size, 0, none⟩ 1 1 [.string (s.extract fr s.size)] rfl rfl (cell_one_new _ _ _) (one_cell_str _) (by unfold maxLen; omega) (by omega) (by simp; omega) ?_; intro v' w1 hown' hgrow hnil; clear hnil; have hown2 := Aside0.mk hown'; have hB2 := Aside0.mk (below_own hB.out hgrow hown.out); clear hown' hgrow hown hB))
      rw [Exit.noGoto_ret]
      go_ret
      exact ⟨v', rfl, by rw [← hd2.out]; simpa [strs] using hown2.out, hB2.out⟩
end Go.Proofs.YtbdpnimfkogajaaDoor.Txt
