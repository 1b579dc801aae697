/- Proved here: what stays as it was along the laws of Ancestors and Drill, and the calls of eqIntS, markIntS, heldIntS in that frame. -/
import Derived.Test.YtolcdkanebopiaaRM3
import Derived.Test.YtolcdkanebopiaaRK2
import Derived.Test.YtolcdkanebopiaaRT6
namespace Go.Proofs.Ytolcdkanebopiaa.Tree
open Go.RowKit Go.Proofs.YtolcdkanebopiaaW.PrintWords Go.Proofs.YtolcdkanebopiaaW.PrintLast Go.Proofs.YtolcdkanebopiaaW.PrintMore Go.Proofs.Ytolcdkanebopiaa.PFnExactDomain
set_option linter.unusedVariables false
set_option linter.unusedSimpArgs false
theorem made_R {w w' : World} {v : Value} {l : List Nat} (h : Made w w' v l) : Kd.R (Kd.int .i64) 3 w' w.heap.size (fun k => v.ownBlock = some k) v (ints l) := by
  have e : encs (Value.int .i64) (ints l) = nums l := by simp [encs, ints, nums]
  exact Kd.R_of_own (by rw [e, ints_len]; exact h.1) (fun k hk => hk)
theorem made_R2 {w w' : World} {v : Value} {l : List Nat} {hi : Nat} (h : Made w w' v l) (hh : hi ≤ w.heap.size) : Kd.R (Kd.int .i64) 3 w' hi (fun k => hi ≤ k ∧ v.ownBlock = some k) v (ints l) := by
  have h1 := Kd.R_bound (made_R h)
  exact Kd.R_lower (Kd.R_mono h1 (fun k hk => ⟨by have := hk.2.1; omega, hk.1⟩)) hh
structure Inv (w : World) (gc lo hi n : Nat) (O : Obj) (AW AG : Option Addr) (cW cG : Nat) (LW LG : List Int) (u : World) : Prop where
  hb : Below w.heap.size w u
  box : u.heap[gc]? = some O
  gcl : gc < lo
  wl : w.heap.size ≤ lo
  lh : lo ≤ hi
  hu : hi ≤ u.heap.size
  hw : Kd.R (Kd.int .i64) 3 u w.heap.size (fun k => k < lo) (.slice AW n cW) LW
  hg : Kd.R (Kd.int .i64) 3 u w.heap.size (fun k => hi ≤ k ∧ (Value.slice AG n cG).ownBlock = some k) (.slice AG n cG) LG
section
variable {w u u' : World} {gc lo hi n cW cG : Nat} {O : Obj} {AW AG : Option Addr} {LW LG : List Int}
theorem Inv.move (h : Inv w gc lo hi n O AW AG cW cG LW LG u) (hb' : Below w.heap.size w u') (hs : u.heap.size ≤ u'.heap.size) (hl : ∀ k, k < lo → u'.heap[k]? = u.heap[k]?) (hh : ∀ k, hi ≤ k → k < u.heap.size → u'.heap[k]? = u.heap[k]?) : Inv w gc lo hi n O AW AG cW cG LW LG u' :=
  ⟨hb', (hl _ h.gcl).trans h.box, h.gcl, h.wl, h.lh, Nat.le_trans h.hu hs, Kd.R_step h.hw (fun k hk _ => hl k hk), Kd.R_step h.hg (fun k hk hlt => hh k hk.1 hlt)⟩
theorem Inv.below (h : Inv w gc lo hi n O AW AG cW cG LW LG u) (hB : Below u.heap.size u u') : Inv w gc lo hi n O AW AG cW cG LW LG u' :=
  h.move (h.hb.trans (hB.mono h.hb.size)) hB.size (fun k hk => hB.block k (by have := h.lh; have := h.hu; omega)) (fun k _ hk => hB.block k hk)
theorem Inv.mk' (h : Inv w gc lo hi n O AW AG cW cG LW LG u) (k : Mk lo hi u u') : Inv w gc lo hi n O AW AG cW cG LW LG u' :=
  h.move (h.hb.trans (k.below.mono h.wl)) k.below.size (fun i hi => k.below.block i hi) k.upper
theorem Inv.drewN (h : Inv w gc lo hi n O AW AG cW cG LW LG u) (m : Nat) : Inv w gc lo hi n O AW AG cW cG LW LG (u.drewN m) := h.below (below_drewN (Below.refl _ _) m)
end
theorem eq_calls {u : World} {A0 A1 : Option Addr} {n c0 c1 : Nat} {L : List Int} (hA : Kd.C (Kd.int .i64) u A0 n L) (hc0 : n ≤ c0) (hB : Kd.C (Kd.int .i64) u A1 n L) (hc1 : n ≤ c1) (hs : Short L) :
    Calls Try.prog 13 #[.slice A0 n c0, .slice A1 n c1] u fun e u' => e = .returned (.bool true) ∧ Below u.heap.size u u' := by
  obtain ⟨k, hk⟩ := (eqIntS_ev hs).rounds
  have hn := hA.1
  subst hn
  exact (laws_eqIntS.calls k A0 c0 L A1 c1 L true u hA hc0 hB hc1 hk).mono fun e u' ⟨h, d⟩ => ⟨h, d.below⟩
theorem held_calls {u : World} {A0 : Option Addr} {n c0 : Nat} (hA : Kd.C (Kd.int .i64) u A0 n (cnt 0 n)) (hc0 : n ≤ c0) (hs : n ≤ 1048576) :
    Calls Try.prog 16 #[.slice A0 n c0, .int .i64 1] u fun e u' => e = .returned (.int .i64 ((n + 1 : Nat) : Int)) ∧ Below u.heap.size u u' := by
  obtain ⟨k, hk⟩ := (held_ev hs).rounds
  have h := laws_heldIntS.calls k A0 c0 (cnt 0 n) 1 ((n + 1 : Nat) : Int) u (by rw [cnt_len]; exact hA) (by rw [cnt_len]; exact hc0) hk
  rw [cnt_len] at h
  exact h.mono fun e u' ⟨h, d⟩ => ⟨h, d.below⟩
theorem mark_calls {w u : World} {gc lo hi n cW cG : Nat} {O : Obj} {AW AG : Option Addr} {LW LG : List Int} (h : Inv w gc lo hi n O AW AG cW cG LW LG u) (hs : n ≤ 1048576) :
    Calls Try.prog 15 #[.slice AG n cG, .int .i64 1] u fun e u' => e = .returned (.int .i64 ((n + 1 : Nat) : Int)) ∧ Inv w gc lo hi n O AW AG cW cG LW (cnt 0 n) u' := by
  have hn := (Kd.R_reads' h.hg).1
  obtain ⟨k, hk⟩ := (mark_ev (L := LG) (by unfold Short; omega)).rounds
  rw [← hn] at hk
  refine (laws_markIntS.calls k _ (.slice AG n cG) LG 1 _ _ w u h.hb h.hg hk).mono ?_
  rintro e u' ⟨rfl, hr, hb, hkp⟩
  have hne : ∀ k, k < lo → ¬ (hi ≤ k ∧ (Value.slice AG n cG).ownBlock = some k) := fun k hk h2 => by have := h.lh; omega
  have hlt : ∀ k, k < lo → k < u.heap.size := fun k hk => by have := h.lh; have := h.hu; omega
  refine ⟨rfl, hb, (hkp.2 _ (hlt _ h.gcl) (hne _ h.gcl)).trans h.box, h.gcl, h.wl, h.lh, Nat.le_trans h.hu hkp.1, Kd.R_step h.hw (fun k hk hl => hkp.2 k hl (hne k hk)), ?_⟩
  have hg0 := h.hg.1
  obtain ⟨_, rest⟩ := hr
  exact Kd.R_mono (ok := fun k => hi ≤ k ∧ (Value.slice AG n cG).ownBlock = some k) ⟨hg0, rest.imp_ (fun _ _ hp => hp)⟩ (fun k hk => hk)
theorem Inv.cntC {w u : World} {gc lo hi n cW cG : Nat} {O : Obj} {AW AG : Option Addr} {LW : List Int} (h : Inv w gc lo hi n O AW AG cW cG LW (cnt 0 n) u) : Kd.C (Kd.int .i64) u AG n (cnt 0 n) := by
  have := (Kd.R_reads' h.hg).2.2
  rw [cnt_len] at this
  exact this
end Go.Proofs.Ytolcdkanebopiaa.Tree
