/- Proved here: what strings.SplitSeq's iterator does at a separator of one byte: it hands the pieces to the loop's rounds in their order. Conditions: they stand in the statement. -/
import Derived.Test.YtbdpnimfkogajaaDoorKN6
import Derived.RangeFuncNested
import Derived.RangeFuncBound
import Derived.RangeFuncCalls
import Derived.RangeFuncLeaves
import Derived.Shelf.Abstract
import Derived.WalkKit
import Derived.OwnWalkIn
import Derived.TacticsInMore
import Derived.LoopNIn
import Derived.LoopIn
import Derived.Lib.IndexLaws
namespace Go.Proofs.YtbdpnimfkogajaaDoor.Txt
open Go.RowKit Go.Proofs.YtbdpnimfkogajaaDoorW.PrintWords Go.Proofs.YtbdpnimfkogajaaDoorW.PrintLast Go.Proofs.YtbdpnimfkogajaaDoorW.PrintMore Go.Proofs.YtbdpnimfkogajaaDoor.PFnExactParseScript
set_option linter.unusedVariables false
attribute [local go_sem] Oper.semAt_some
theorem pieces_skip {s : ByteArray} {c : UInt8} {fr : Nat} : ∀ (d k i : Nat), i + d ≤ s.size → (∀ j (h : j < s.size), i ≤ j → j < i + d → ¬ s[j] = c) → pieces s c (k + d) fr i = pieces s c k fr (i + d)
  | 0, k, i, _, _ => rfl
  | d + 1, k, i, h, hn => by
    rw [show k + (d + 1) = (k + d) + 1 by omega, pieces_on (h := by omega) (hn i (by omega) (Nat.le_refl _) (by omega)), pieces_skip d k (i + 1) (by omega) (fun j h h1 h2 => hn j h (by omega) (by omega))]
    congr 1; omega
theorem ext_get {s : ByteArray} {fr j : Nat} (hfr : fr ≤ s.size) : (s.extract fr s.size).data.toList[j]? = if h : fr + j < s.size then some s[fr + j] else none := by
  rw [Array.getElem?_toList, ByteArray.data_extract, Array.getElem?_extract]
  split
  · rename_i h
    have h' : fr + j < s.size := by
      have : s.data.size = s.size := rfl
      omega
    rw [dif_pos h', Array.getElem?_eq_getElem (show fr + j < s.data.size from h')]
    rfl
  · rename_i h
    have h' : ¬ fr + j < s.size := by
      have : s.data.size = s.size := rfl
      omega
    rw [dif_neg h']
theorem idx_none {s : ByteArray} {c : UInt8} {fr : Nat} (hfr : fr ≤ s.size) (h : Lib.indexByte (s.extract fr s.size).data.toList c < 0) : pieces s c (s.size + 1 - fr) fr fr = [s.extract fr s.size] := by
  have h1 : Lib.indexByte (s.extract fr s.size).data.toList c = -1 := by have := Lib.indexByte_ge (s.extract fr s.size).data.toList c; omega
  have hno := Lib.indexByte_none h1
  rw [show s.size + 1 - fr = 1 + (s.size - fr) by omega, pieces_skip (s.size - fr) 1 fr (by omega) (fun j hj h1 h2 => ?_), pieces_end (k := 0) (by omega)]
  have := hno (j - fr)
  rw [ext_get hfr, dif_pos (by omega)] at this
  intro e
  apply this
  simp only [show fr + (j - fr) = j by omega]
  rw [e]
theorem idx_some {s : ByteArray} {c : UInt8} {fr i : Nat} (hfr : fr ≤ s.size) (h : Lib.indexByte (s.extract fr s.size).data.toList c = (i : Int)) :
    fr + i < s.size ∧ pieces s c (s.size + 1 - fr) fr fr = s.extract fr (fr + i) :: pieces s c (s.size + 1 - (fr + i + 1)) (fr + i + 1) (fr + i + 1) := by
  obtain ⟨h1, h2⟩ := Lib.indexByte_some h
  rw [ext_get hfr] at h1
  split at h1
  · rename_i hlt
    refine ⟨hlt, ?_⟩
    rw [show s.size + 1 - fr = (s.size - fr - i + 1) + i by omega, pieces_skip i _ fr (by omega) (fun j hj h3 h4 => ?_), pieces_cut hlt (by simpa using h1)]
    · congr 2; omega
    · have := h2 (j - fr) (by omega)
      rw [ext_get hfr, dif_pos (by omega)] at this
      intro e
      apply this
      simp only [show fr + (j - fr) = j by omega]
      rw [e]
  · simp at h1
def strLeft (b : Nat) (w : World) : Nat := match w.cell? ⟨b, 0, none⟩ with | some (.string s) => s.size | _ => 0
theorem strLeft_eq {b : Nat} {w : World} {s : ByteArray} (h : w.cell? ⟨b, 0, none⟩ = some (.string s)) : strLeft b w = s.size := by unfold strLeft; rw [h]
set_option maxHeartbeats 2000000 in
set_option maxRecDepth 100000 in
theorem seq_in {n l sB pB vB : Nat} {text : ByteArray} {c : UInt8} (hmax : text.size ≤ 1000000) {Sx : Nat → Prop} {J : List ByteArray → World → Prop} {Jx : World → Prop} {W : World}
    (hsp : sB ≠ pB) (hsv : sB ≠ vB) (hs : ¬ Sx sB) (hp : ¬ Sx pB) (hv : ¬ Sx vB)
    (hY : ∀ pre x post W, J pre W → pre ++ x :: post = pieces text c (text.size + 1) 0 0 → YieldAt Fence.wide (n - 1) Tryd.prog l #[.string x] W fun e W' =>
      (e = .returned (.bool true) ∧ J (pre ++ [x]) W' ∧ Chg Sx W W') ∨ (e = .returned (.bool false) ∧ Jx W'))
    (hJ : ∀ pre W v, J pre W → J pre (W.setCell ⟨sB, 0, none⟩ v)) (hJe : ∀ W, J (pieces text c (text.size + 1) 0 0) W → True)
    (hcs : W.cell? ⟨sB, 0, none⟩ = some (.string text)) (hfs : W.frozen? ⟨sB, 0, none⟩ = false) (hcp : W.cell? ⟨pB, 0, none⟩ = some (.string ⟨#[c]⟩)) (hcv : W.cell? ⟨vB, 0, none⟩ = some (.int .i64 0)) (h0 : J [] W) :
    CallsIn Fence.wide n Tryd.prog 38 #[.func (.yield l) #[] #[], .pointer (some ⟨pB, 0, none⟩), .pointer (some ⟨sB, 0, none⟩), .pointer (some ⟨vB, 0, none⟩)] W fun e W' => (∃ v, e = .returned v) ∧
      (J (pieces text c (text.size + 1) 0 0) W' ∨ Jx W') := by
  refine callsIn_of_wp Tryd.func38 rfl trivial ?_ rfl
  simp only [Tryd.ntmps38, List.size_toArray, List.length_cons, List.length_nil, Nat.reduceAdd, Nat.reduceSub, Array.replicate_succ, Array.replicate_zero, List.push_toArray, List.append_toArray, List.nil_append, List.cons_append]
  obtain ⟨P, hP⟩ : ∃ P, P = pieces text c (text.size + 1) 0 0 := ⟨_, rfl⟩
  rw [← hP] at hY ⊢
  have HY := Aside0.mk hY
  have HJ := Aside0.mk hJ
  have HP := Aside0.mk hP
  have H0 := Aside0.mk h0
  clear hY hJ hJe hP h0
  gi_wp2
  gi_loopw [] (fun wr => ∃ (done : List ByteArray) (fr : Nat), fr ≤ text.size ∧ Aside0 (done ++ pieces text c (text.size + 1 - fr) fr fr = P) ∧ Aside0 (J done wr) ∧ wr.cell? ⟨sB, 0, none⟩ = some (.string (text.extract fr text.size)) ∧ wr.frozen? ⟨sB, 0, none⟩ = false ∧
      wr.cell? ⟨pB, 0, none⟩ = some (.string ⟨#[c]⟩) ∧ wr.cell? ⟨vB, 0, none⟩ = some (.int .i64 0))
    (fun wr => strLeft sB wr)
  case atStart =>
    exact ⟨[], 0, Nat.zero_le _, ⟨HP.out.symm⟩, H0, by rw [hcs]; simp, hfs, hcp, hcv⟩
  case round =>
    clear hcs hfs hcp hcv
    obtain ⟨done, fr, hfr, hd, hJs, hcs, hfs, hcp, hcv⟩ := hrel
    obtain ⟨r, hr⟩ : ∃ r, Lib.indexByte (text.extract fr text.size).data.toList c = r := ⟨_, rfl⟩
    have HR := Aside0.mk hr
    clear hr
    by_cases hneg : r < 0
    · obtain ⟨fn, tmps, assign, body, hy, hRd⟩ := HY.out done (text.extract fr text.size) [] wr hJs.out (by rw [← hd.out, idx_none hfr (by rw [HR.out]; exact hneg)])
      have HRd := Aside0.mk hRd
      clear hRd
      gi_wp2_with (refine ⟨trivial, fun h => absurd h (by decide), ?_⟩; gi_at_call 40; refine (callsIn_wide.2 (Tryd.strings_Index_one _ _ _)).mono ?_; rintro e w1 ⟨rfl, rfl⟩; rw [HR.out])
      refine ⟨fun h => absurd h (by decide), HRd.out.mono ?_⟩
      have hPd : done ++ [text.extract fr text.size] = P := by rw [← hd.out, idx_none hfr (by rw [HR.out]; exact hneg)]
      rintro e W3 (⟨rfl, hJ3, hk3⟩ | ⟨rfl, hJx3⟩)
      · rw [hPd] at hJ3
        gi_wp2
        go_end0
        exact ⟨⟨_, rfl⟩, .inl hJ3⟩
      · gi_wp2
        go_end0
        exact ⟨⟨_, rfl⟩, .inr hJx3⟩
    · obtain ⟨i, rfl⟩ : ∃ i : Nat, r = (i : Int) := ⟨r.toNat, by omega⟩
      obtain ⟨hlt, hcut⟩ := idx_some hfr HR.out
      have hPd := Aside0.mk (show (done ++ [text.extract fr (fr + i)]) ++ pieces text c (text.size + 1 - (fr + i + 1)) (fr + i + 1) (fr + i + 1) = P by rw [← hd.out, hcut]; simp)
      obtain ⟨fn, tmps, assign, body, hy, hRd⟩ := HY.out done (text.extract fr (fr + i)) (pieces text c (text.size + 1 - (fr + i + 1)) (fr + i + 1) (fr + i + 1)) wr hJs.out (by rw [← hPd.out]; simp)
      have HRd := Aside0.mk hRd
      have hsz : (text.extract fr text.size).size = text.size - fr := by simp
      have hcut2 : (text.extract fr text.size).extract 0 i = text.extract fr (fr + i) := by
        apply ByteArray.ext; simp [Nat.min_eq_left (Nat.le_of_lt hlt)]
      clear hRd hcut
      gi_wp2_with (refine ⟨trivial, fun h => absurd h (by decide), ?_⟩; gi_at_call 40; refine (callsIn_wide.2 (Tryd.strings_Index_one _ _ _)).mono ?_; rintro e w1 ⟨rfl, rfl⟩; rw [HR.out])
      refine ⟨fun h => absurd h (by decide), HRd.out.mono ?_⟩
      rintro e W3 (⟨rfl, hJ3, hk3⟩ | ⟨rfl, hJx3⟩)
      · have hcs3 := hk3.cell hcs hs
        have hcp3 := hk3.cell hcp hp
        have hcv3 := hk3.cell hcv hv
        have hfs3 : W3.frozen? ⟨sB, 0, none⟩ = false := (World.frozen?_of_block (hk3.same sB (World.block_lt_of_cell? _ _ hcs) hs)).trans hfs
        have hcut3 : (text.extract fr text.size).extract (i + 1) (text.size - fr) = text.extract (fr + i + 1) text.size := by
          apply ByteArray.ext; simp; congr 1 <;> omega
        have hHJ := Aside0.mk hJ3
        clear hJ3 hJs HRd hy hk3
        gi_wp2
        go_roundw
        case rel =>
          have hC := Chg.set (S := fun k => k = sB) W3 ⟨sB, 0, none⟩ (.string (text.extract (fr + i + 1) text.size)) rfl
          exact ⟨done ++ [text.extract fr (fr + i)], fr + i + 1, by omega, hPd, ⟨HJ.out _ _ _ hHJ.out⟩, World.cell?_setCell_same' _ _ _ (by rw [hcs3]; rfl), by rw [World.frozen?_setCell]; exact hfs3, hC.cell hcp3 (fun e => hsp e.symm), hC.cell hcv3 (fun e => hsv e.symm)⟩
        case measure =>
          rw [strLeft_eq hcs, strLeft_eq (World.cell?_setCell_same' _ _ _ (by rw [hcs3]; rfl))]
          simp
          omega
      · gi_wp2
        refine bodyPost_ret (results_none rfl _ _ _) rfl ?_
        exact ⟨⟨_, rfl⟩, .inr hJx3⟩
theorem new_box (w : World) (v : Value) (t : TypeId) : (w.alloc (.cells #[v] t)).cell? ⟨w.heap.size, 0, none⟩ = some v ∧ (w.alloc (.cells #[v] t)).frozen? ⟨w.heap.size, 0, none⟩ = false := by
  have h := World.alloc_heap_new w (.cells #[v] t)
  constructor
  · unfold World.cell?; rw [h]; rfl
  · unfold World.frozen?; rw [h]; rfl
theorem below_frozen {w w' : World} (h : Below w.heap.size w w') {a : Addr} {v : Value} (hc : w.cell? a = some v) (hf : w.frozen? a = false) : w'.frozen? a = false := (h.frozen (World.block_lt_of_cell? w a hc)).trans hf
set_option maxHeartbeats 800000 in
set_option maxRecDepth 100000 in
theorem seqmake1_calls (s p : ByteArray) (w : World) :
    Calls Tryd.prog 30 #[.string s, .string p, .int .i64 0] w fun e w' => ∃ sB pB vB, e = .returned (.func (.func 38) #[] #[.pointer (some ⟨pB, 0, none⟩), .pointer (some ⟨sB, 0, none⟩), .pointer (some ⟨vB, 0, none⟩)]) ∧
      w.heap.size ≤ sB ∧ sB < pB ∧ pB < vB ∧ vB < w'.heap.size ∧ w'.cell? ⟨sB, 0, none⟩ = some (.string s) ∧ w'.frozen? ⟨sB, 0, none⟩ = false ∧ w'.cell? ⟨pB, 0, none⟩ = some (.string p) ∧ w'.cell? ⟨vB, 0, none⟩ = some (.int .i64 0) ∧ Below w.heap.size w w' := by
  have hmf : ∀ (fn : Fn) (first cap : Array Value) (w : World), (Instr.makeFunc fn first cap).run Tryd.prog w = .ok (.func fn first cap) w := by
    intro fn first cap w; simp [Instr.makeFunc]
  go_enter Tryd.func30, Tryd.ntmps30
  go_wp2_with fail
  go_ret
  have n1 := new_box w (.string s) 9
  have n2 := new_box (w.alloc (.cells #[.string s] 9)) (.string p) 9
  have n3 := new_box ((w.alloc (.cells #[.string s] 9)).alloc (.cells #[.string p] 9)) (.int .i64 0) 3
  simp only [World.size_alloc] at n2 n3
  refine ⟨w.heap.size, w.heap.size + 1, w.heap.size + 1 + 1, rfl, Nat.le_refl _, by omega, by omega, by simp, below_cell (al _ _) (below_cell (al _ _) n1.1), ?_, below_cell (al _ _) n2.1, n3.1, ?_⟩
  · exact below_frozen (al _ _) (below_cell (al _ _) n1.1) (below_frozen (al _ _) n1.1 n1.2)
  · exact (((Below.refl w.heap.size w).alloc (by simp) _).alloc (by simp) _).alloc (by simp; omega) _
set_option maxHeartbeats 800000 in
set_option maxRecDepth 100000 in
theorem seqmake_calls (s p : ByteArray) (w : World) :
    Calls Tryd.prog 25 #[.string s, .string p] w fun e w' => ∃ sB pB vB, e = .returned (.func (.func 38) #[] #[.pointer (some ⟨pB, 0, none⟩), .pointer (some ⟨sB, 0, none⟩), .pointer (some ⟨vB, 0, none⟩)]) ∧
      w.heap.size ≤ sB ∧ sB < pB ∧ pB < vB ∧ vB < w'.heap.size ∧ w'.cell? ⟨sB, 0, none⟩ = some (.string s) ∧ w'.frozen? ⟨sB, 0, none⟩ = false ∧ w'.cell? ⟨pB, 0, none⟩ = some (.string p) ∧ w'.cell? ⟨vB, 0, none⟩ = some (.int .i64 0) ∧ Below w.heap.size w w' := by
  go_enter Tryd.func25, Tryd.ntmps25
  go_wp2_with (go_at_call 30; refine (seqmake1_calls s p _).mono ?_; rintro e w1 ⟨sB, pB, vB, rfl, h1, h2, h3, h4, h5, h6, h7, h8, h9⟩)
  go_ret
  exact ⟨sB, pB, vB, rfl, h1, h2, h3, h4, h5, h6, h7, h8, h9⟩
end Go.Proofs.YtbdpnimfkogajaaDoor.Txt
