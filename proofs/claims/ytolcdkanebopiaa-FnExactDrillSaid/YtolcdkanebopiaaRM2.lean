/- Proved here, in plain Lean: the reference's tree questions come to what impl's tree and domain come to. -/
import Derived.Test.YtolcdkanebopiaaRM1
import Derived.Test.YtolcdkanebopiaaRT5
namespace Go.Proofs.Ytolcdkanebopiaa.Tree
open Go.RowKit Go.Proofs.YtolcdkanebopiaaW.PrintWords Go.Proofs.YtolcdkanebopiaaW.PrintLast Go.Proofs.YtolcdkanebopiaaW.PrintMore Go.Proofs.Ytolcdkanebopiaa.PFnExactDomain
set_option linter.unusedVariables false
set_option linter.unusedSimpArgs false
theorem between_is (x lo hi : Int) : spec_l1Between.f x lo hi = some (decide (lo ≤ x ∧ x ≤ hi)) := by
  unfold spec_l1Between.f
  by_cases h : lo ≤ x
  · rw [if_pos h]; simp [h]
  · rw [if_neg h]; simp [h]
theorem limOK_is : spec_l1LimOK.f 0 0 0 0 = some true := by decide
theorem parS_rd (S : List S76) (i : Nat) : (rd_T76 S i).f0 = parS S i := rfl
theorem iniS_rd (S : List S76) (i : Nat) : (rd_T76 S i).f1 = iniS S i := rfl
theorem depth_ev {S : List S76} {T : List S80} (hS : Short S) (hp : ∀ i, i < S.length → ParOK S i) : ∀ n i, i ≤ n → i < S.length → Ev (fun k => spec_l2Depth.f k S T (i : Int)) ((up (parS S) i).length - 1 : Int) := by
  unfold Short at hS
  intro n
  induction n with
  | zero =>
    intro i h0 hi
    obtain rfl : i = 0 := by omega
    have := hp 0 hi
    unfold ParOK at this
    rw [up_root (by omega)]
    exact Ev.step (fun k => by simp only [spec_l2Depth.f]; rw [if_pos (by omega)]; rfl) (Ev.now _)
  | succ n ih =>
    intro i h0 hi
    have hpi := hp i hi
    by_cases hz : i = 0
    · exact ih i (by omega) hi
    · unfold ParOK at hpi
      obtain ⟨p, hpp⟩ := Int.eq_ofNat_of_zero_le (show 0 ≤ parS S i by omega)
      rw [up_step (by omega) (by omega), hpp, Int.toNat_natCast]
      refine Ev.step (f := fun k => (spec_l2Depth.f k S T (p : Int)).bind fun t => some (wrap64 (1 + t))) (fun k => ?_) (Ev.bind (f := fun k t => some (wrap64 (1 + t))) (ih p (by omega) (by omega)) ?_)
      · simp only [spec_l2Depth.f]
        rw [if_neg (by omega), if_pos (by omega), if_pos (by omega), parS_rd, hpp]
      · have h1 := up_len (parS S) p p (Nat.le_refl _)
        have h2 := up_pos (parS S) p
        rw [w64 (by omega) (by omega)]
        have : (1 + ((up (parS S) p).length - 1 : Int)) = ((i :: up (parS S) p).length - 1 : Int) := by simp only [List.length_cons]; omega
        rw [this]
        exact Ev.now _
theorem hasChild_ev {S : List S76} {T : List S80} (hS : Short S) (m : Nat) : ∃ b, Ev (fun k => spec_l2HasChild.f k S T (m : Int)) b ∧ (b = true ↔ HasKid S m) := by
  unfold Short at hS
  have key : ∀ d i, i + d = S.length → (∀ j, j < i → parS S j ≠ m) → ∃ b, Ev (fun k => spec_l2HasChild.l0 k (m : Int) S (S.length : Int) (i : Int)) b ∧ (b = true ↔ HasKid S m) := by
    intro d
    induction d with
    | zero =>
      intro i hi hn
      obtain rfl : i = S.length := by omega
      exact ⟨false, Ev.step (fun k => by simp only [spec_l2HasChild.l0]; rw [if_neg (by omega)]) (Ev.now false), ⟨fun e => absurd e (by simp), fun ⟨j, hj, e⟩ => absurd e (hn j hj)⟩⟩
    | succ d ih =>
      intro i hi hn
      by_cases h : parS S i = m
      · exact ⟨true, Ev.step (fun k => by simp only [spec_l2HasChild.l0]; rw [if_pos (by omega), if_pos (by omega), if_pos (by omega), parS_rd, if_pos h]) (Ev.now true), ⟨fun _ => ⟨i, by omega, h⟩, fun _ => rfl⟩⟩
      · obtain ⟨b, e, hb⟩ := ih (i + 1) (by omega) (fun j hj => by
          by_cases e : j = i
          · rw [e]; exact h
          · exact hn j (by omega))
        exact ⟨b, Ev.step (fun k => by simp only [spec_l2HasChild.l0]; rw [if_pos (by omega), if_pos (by omega), if_pos (by omega), parS_rd, if_neg h, w64s (n := S.length) (by omega) (by omega)]) e, hb⟩
  exact key S.length 0 (by omega) (fun j hj => absurd hj (Nat.not_lt_zero _))
def FaultIs (S : List S76) (T : List S80) (g : Nat → Option (Int × Int)) : Prop := ∃ r : Int × Int, Ev g r ∧ (r.1 = 0 ↔ Good S T)
theorem fault_no {S : List S76} {T : List S80} {g : Nat → Option (Int × Int)} {c p : Int} (hg : ∀ k, g (k + 1) = some (c, p)) (hc : c ≠ 0) (hn : ¬ Good S T) : FaultIs S T g :=
  ⟨(c, p), Ev.step hg (Ev.now _), ⟨fun e => absurd e hc, fun h => absurd h hn⟩⟩
theorem fault_step {S : List S76} {T : List S80} {g f : Nat → Option (Int × Int)} (hg : ∀ k, g (k + 1) = f k) (h : FaultIs S T f) : FaultIs S T g := by
  obtain ⟨r, e, hr⟩ := h
  exact ⟨r, Ev.step hg e, hr⟩
theorem fault_eq {S : List S76} {T : List S80} {g f : Nat → Option (Int × Int)} (hg : ∀ k, g k = f k) (h : FaultIs S T f) : FaultIs S T g := by
  obtain ⟨r, e, hr⟩ := h
  exact ⟨r, Ev.congr hg e, hr⟩
section
variable {S : List S76} {T : List S80}
theorem fault2 (hS : Short S) (hn : 1 ≤ S.length ∧ S.length ≤ 200) (ht : T.length ≤ 500) (hp : ∀ i, i < S.length → ParOK S i) (hd : ∀ i, i < S.length → DepOK S i) :
    ∀ d i, i + d = S.length → (∀ j, j < i → IniOK S j) → FaultIs S T (fun k => spec_l2TreeFault.l2 k S (S.length : Int) (i : Int) S T) := by
  have hS' := hS
  unfold Short at hS
  intro d
  induction d with
  | zero =>
    intro i hi hj
    obtain rfl : i = S.length := by omega
    exact ⟨(0, 0), Ev.step (fun k => by simp only [spec_l2TreeFault.l2]; rw [if_neg (by omega)]) (Ev.now _), ⟨fun _ => ⟨hn.1, hn.2, ht, hp, hd, hj⟩, fun _ => rfl⟩⟩
  | succ d ih =>
    intro i hi hj
    have hlt : i < S.length := by omega
    obtain ⟨b, eb, hb⟩ := hasChild_ev (T := T) hS' i
    have goto : ∀ (g : Nat → Bool → Option (Int × Int)), (∀ k, spec_l2TreeFault.l2 (k + 1) S (S.length : Int) (i : Int) S T = (spec_l2HasChild.f k S T (i : Int)).bind (g k)) → FaultIs S T (fun k => g k b) → FaultIs S T (fun k => spec_l2TreeFault.l2 k S (S.length : Int) (i : Int) S T) := by
      rintro g hk ⟨r, e, hr⟩
      exact ⟨r, Ev.step hk (Ev.bind (f := g) eb e), hr⟩
    refine goto _ (fun k => by simp only [spec_l2TreeFault.l2]; rw [if_pos (by omega), if_pos (by omega), if_pos (by omega)]) ?_
    have next : IniOK S i → FaultIs S T (fun k => spec_l2TreeFault.l2 k S (S.length : Int) (wrap64 ((i : Int) + 1)) S T) := fun h => by
      rw [w64s hlt (by omega)]
      exact ih (i + 1) (by omega) (fun j h1 => by
        by_cases e : j = i
        · rw [e]; exact h
        · exact hj j (by omega))
    have bad : ¬ IniOK S i → FaultIs S T (fun k => some (4, (i : Int))) := fun h => ⟨(4, (i : Int)), Ev.now _, ⟨fun e => absurd e (by simp), fun g => absurd (g.ini i hlt) h⟩⟩
    cases b with
    | true =>
      have hk : HasKid S i := hb.1 rfl
      by_cases hq : 0 ≤ iniS S i ∧ iniS S i ≤ (S.length : Int) - 1
      · obtain ⟨q, hqq⟩ := Int.eq_ofNat_of_zero_le hq.1
        have hqr : (rd_T76 S (i : Int)).f1 = q := hqq
        by_cases he : parS S q = i
        · exact fault_eq (fun k => by rw [if_pos rfl, hqr, between_is, w64 (by omega) (by omega), decide_eq_true (by omega), Option.bind_some, if_pos rfl, if_pos (by omega), if_pos (by omega), parS_rd, if_pos he]) (next (Or.inr ⟨hk, hq.1, hq.2, by rw [hqq, Int.toNat_natCast]; exact he⟩))
        · exact fault_eq (fun k => by rw [if_pos rfl, hqr, between_is, w64 (by omega) (by omega), decide_eq_true (by omega), Option.bind_some, if_pos rfl, if_pos (by omega), if_pos (by omega), parS_rd, if_neg he]) (bad (fun h => by
            rcases h with ⟨h, _⟩ | ⟨_, _, _, h⟩
            · exact h hk
            · rw [hqq, Int.toNat_natCast] at h; exact he h))
      · exact fault_eq (fun k => by rw [if_pos rfl, iniS_rd, between_is, w64 (by omega) (by omega), decide_eq_false hq, Option.bind_some, if_neg (by simp)]) (bad (fun h => by
          rcases h with ⟨h, _⟩ | ⟨_, h1, h2, h⟩
          · exact h hk
          · exact hq ⟨h1, h2⟩))
    | false =>
      have hk : ¬ HasKid S i := fun h => by have := hb.2 h; cases this
      by_cases hq : iniS S i = -1
      · exact fault_eq (fun k => by rw [if_neg (by simp), iniS_rd, if_pos hq]) (next (Or.inl ⟨hk, hq⟩))
      · exact fault_eq (fun k => by rw [if_neg (by simp), iniS_rd, if_neg hq]) (bad (fun h => by
          rcases h with ⟨_, h⟩ | ⟨h, _⟩
          · exact hq h
          · exact hk h))
theorem fault1 (hS : Short S) (hn : 1 ≤ S.length ∧ S.length ≤ 200) (ht : T.length ≤ 500) (hp : ∀ i, i < S.length → ParOK S i) :
    ∀ d i, i + d = S.length → (∀ j, j < i → DepOK S j) → FaultIs S T (fun k => spec_l2TreeFault.l1 k (S.length : Int) (i : Int) S T) := by
  have hS' := hS
  unfold Short at hS
  intro d
  induction d with
  | zero =>
    intro i hi hj
    obtain rfl : i = S.length := by omega
    exact fault_step (fun k => by simp only [spec_l2TreeFault.l1]; rw [if_neg (by omega)]; rfl) (fault2 hS' hn ht hp hj S.length 0 (by omega) (fun j hj => absurd hj (Nat.not_lt_zero _)))
  | succ d ih =>
    intro i hi hj
    have hlt : i < S.length := by omega
    have eb := depth_ev (T := T) hS' hp i i (Nat.le_refl _) hlt
    have goto : ∀ (g : Nat → Int → Option (Int × Int)), (∀ k, spec_l2TreeFault.l1 (k + 1) (S.length : Int) (i : Int) S T = (spec_l2Depth.f k S T (i : Int)).bind (g k)) → FaultIs S T (fun k => g k ((up (parS S) i).length - 1 : Int)) → FaultIs S T (fun k => spec_l2TreeFault.l1 k (S.length : Int) (i : Int) S T) := by
      rintro g hk ⟨r, e, hr⟩
      exact ⟨r, Ev.step hk (Ev.bind (f := g) eb e), hr⟩
    refine goto _ (fun k => by simp only [spec_l2TreeFault.l1]; rw [if_pos (by omega)]) ?_
    by_cases h : (up (parS S) i).length ≤ 16
    · refine fault_eq (fun k => by rw [if_neg (by omega), w64s hlt (by omega)]) (ih (i + 1) (by omega) (fun j h1 => by
        by_cases e : j = i
        · rw [e]; exact h
        · exact hj j (by omega)))
    · exact fault_eq (fun k => by rw [if_pos (by omega)]) ⟨(3, (i : Int)), Ev.now _, ⟨fun e => absurd e (by simp), fun g => absurd (g.dep i hlt) h⟩⟩
theorem fault0 (hS : Short S) (hn : 1 ≤ S.length ∧ S.length ≤ 200) (ht : T.length ≤ 500) :
    ∀ d i, i + d = S.length → (∀ j, j < i → ParOK S j) → FaultIs S T (fun k => spec_l2TreeFault.l0 k S (S.length : Int) (i : Int) S T) := by
  have hS' := hS
  unfold Short at hS
  intro d
  induction d with
  | zero =>
    intro i hi hj
    obtain rfl : i = S.length := by omega
    exact fault_step (fun k => by simp only [spec_l2TreeFault.l0]; rw [if_neg (by omega)]; rfl) (fault1 hS' hn ht hj S.length 0 (by omega) (fun j hj => absurd hj (Nat.not_lt_zero _)))
  | succ d ih =>
    intro i hi hj
    have hlt : i < S.length := by omega
    have next : ParOK S i → FaultIs S T (fun k => spec_l2TreeFault.l0 k S (S.length : Int) ((i + 1 : Nat) : Int) S T) := fun h =>
      ih (i + 1) (by omega) (fun j h1 => by
        by_cases e : j = i
        · rw [e]; exact h
        · exact hj j (by omega))
    by_cases hz : i = 0
    · by_cases hm : parS S i = -1
      · exact fault_step (fun k => by simp only [spec_l2TreeFault.l0]; rw [if_pos (by omega), if_pos (by omega), if_pos (by omega), if_pos (by omega), parS_rd, if_pos hm, if_neg (by omega), w64s hlt (by omega)]) (next (Or.inl ⟨hz, hm⟩))
      · exact fault_no (c := 2) (p := i) (fun k => by simp only [spec_l2TreeFault.l0]; rw [if_pos (by omega), if_pos (by omega), if_pos (by omega), if_pos (by omega), parS_rd, if_neg hm]) (by decide) (fun g => by have := g.par i hlt; unfold ParOK at this; omega)
    · by_cases hm : 0 ≤ parS S i ∧ parS S i ≤ (i : Int) - 1
      · exact fault_step (fun k => by simp only [spec_l2TreeFault.l0]; rw [if_pos (by omega), if_pos (by omega), if_pos (by omega), if_neg (by omega), if_pos (by omega), parS_rd, between_is, w64 (by omega) (by omega), decide_eq_true hm, Option.bind_some, if_pos rfl, w64s hlt (by omega)]) (next (Or.inr ⟨by omega, hm.1, hm.2⟩))
      · exact fault_no (c := 2) (p := i) (fun k => by simp only [spec_l2TreeFault.l0]; rw [if_pos (by omega), if_pos (by omega), if_pos (by omega), if_neg (by omega), if_pos (by omega), parS_rd, between_is, w64 (by omega) (by omega), decide_eq_false hm, Option.bind_some, if_neg (by simp)]) (by decide) (fun g => by have := g.par i hlt; unfold ParOK at this; omega)
theorem fault_ev (hS : Short S) : FaultIs S T (fun k => spec_l2TreeFault.f k S T 0 0 0 0) := by
  have hS' := hS
  unfold Short at hS
  unfold spec_l2TreeFault.f
  simp only [between_is, Option.bind_some]
  have bad : ¬ Good S T → FaultIs S T (fun k => spec_l2TreeFault.j0 k true S T) := fun h => fault_no (c := 1) (p := 0) (fun k => by simp only [spec_l2TreeFault.j0, if_true]) (by decide) h
  by_cases hn : (1 : Int) ≤ S.length ∧ (S.length : Int) ≤ 200
  · simp only [hn, and_self, decide_true, if_true]
    by_cases ht : (T.length : Int) > 500
    · simp only [if_pos ht]
      exact bad (fun g => by have := g.t; omega)
    · simp only [if_neg ht, limOK_is, Option.bind_some]
      exact fault_step (fun k => by simp only [spec_l2TreeFault.j0, Bool.not_true, Bool.false_eq_true, if_false]; rfl) (fault0 hS' ⟨by omega, by omega⟩ (by omega) S.length 0 (by omega) (fun j hj => absurd hj (Nat.not_lt_zero _)))
  · simp only [hn, decide_false, Bool.false_eq_true, if_false]
    exact bad (fun g => hn ⟨by have := g.n1; omega, by have := g.n2; omega⟩)
theorem asked_ev (hS : Short S) (a : Int) : ∃ b, Ev (fun k => spec_l2Asked.f k S T a) b ∧ (b = true ↔ Good S T ∧ 0 ≤ a ∧ a ≤ (S.length : Int) - 1) := by
  obtain ⟨r, e, hr⟩ := fault_ev (T := T) hS
  unfold Short at hS
  unfold spec_l2Asked.f
  by_cases h : r.1 = 0
  · refine ⟨decide (0 ≤ a ∧ a ≤ (S.length : Int) - 1), Ev.bind (f := fun k t => if t.1 = 0 then (spec_l1Between.f a 0 (wrap64 ((S.length : Int) - 1))).bind fun t => some t else some false) e (by simp only [if_pos h, between_is, Option.bind_some]; rw [w64 (by omega) (by omega)]; exact Ev.now _), ?_⟩
    rw [decide_eq_true_iff]
    exact ⟨fun h2 => ⟨hr.1 h, h2⟩, fun h2 => h2.2⟩
  · exact ⟨false, Ev.bind (f := fun k t => if t.1 = 0 then (spec_l1Between.f a 0 (wrap64 ((S.length : Int) - 1))).bind fun t => some t else some false) e (by simp only [if_neg h]; exact Ev.now _), ⟨fun e => absurd e (by simp), fun g => absurd (hr.2 g.1) h⟩⟩
end
def ints (l : List Nat) : List Int := l.map Int.ofNat
theorem ints_len (l : List Nat) : (ints l).length = l.length := by simp [ints]
end Go.Proofs.Ytolcdkanebopiaa.Tree
