/- Proved here, in plain Lean: the law's size count ends, and where it is not negative all lists are short; the law's copy of a chart is the chart, field by field; a chart equals itself. -/
import Derived.Test.YtolcdkanebopiaaRB5
import Derived.Test.YtolcdkanebopiaaRX9
namespace Go.Proofs.Ytolcdkanebopiaa.Tree
open Go.RowKit Go.Proofs.YtolcdkanebopiaaW.PrintWords Go.Proofs.YtolcdkanebopiaaW.PrintLast Go.Proofs.YtolcdkanebopiaaW.PrintMore Go.Proofs.Ytolcdkanebopiaa.PFnExactDomain
set_option linter.unusedVariables false
set_option linter.unusedSimpArgs false
theorem w64 {x : Int} (h : -9223372036854775808 ≤ x) (h2 : x ≤ 9223372036854775807) : wrap64 x = x := by unfold wrap64; omega
theorem w64s {i n : Nat} (h : i < n) (hn : n ≤ 9223372036854775807) : wrap64 ((i : Int) + 1) = ((i + 1 : Nat) : Int) := by rw [w64 (by omega) (by omega)]; omega
theorem copy_ends {α β : Type} (l0 : Nat → List β → Int → Option (List β)) (L : List α) (f : α → β) (hend : ∀ k acc, acc.length = L.length → l0 (k + 1) acc (L.length : Int) = some acc)
    (hstep : ∀ (i : Nat) (a : α), L[i]? = some a → ∃ (γ : Type) (g : Nat → Option γ) (t : γ) (mk : γ → β), Ev g t ∧ mk t = f a ∧ ∀ k acc, acc.length = L.length → l0 (k + 1) acc (i : Int) = (g k).bind (fun t => l0 k (acc.set i (mk t)) ((i + 1 : Nat) : Int))) :
    ∀ d i acc, acc.length = L.length → i + d = L.length → Ev (fun k => l0 k acc (i : Int)) (acc.take i ++ (L.drop i).map f) := by
  intro d
  induction d with
  | zero =>
    intro i acc ha hi
    obtain rfl : i = L.length := by omega
    rw [List.drop_length, ← ha, List.take_length]
    simp only [List.map_nil, List.append_nil]
    rw [ha]
    exact Ev.step (fun k => hend k acc ha) (Ev.now acc)
  | succ d ih =>
    intro i acc ha hi
    have hlt : i < L.length := by omega
    obtain ⟨γ, g, t, mk, hg, hm, hk⟩ := hstep i L[i] (List.getElem?_eq_getElem hlt)
    have h := ih (i + 1) (acc.set i (mk t)) (by simpa using ha) (by omega)
    have e : (acc.set i (mk t)).take (i + 1) ++ (L.drop (i + 1)).map f = acc.take i ++ (L.drop i).map f := by
      rw [List.drop_eq_getElem_cons hlt, List.map_cons, ← hm, List.take_succ_eq_append_getElem (by simpa using (show i < acc.length by omega))]
      simp [List.take_set_of_le]
    rw [← e]
    exact Ev.step (fun k => hk k acc ha) (Ev.bind (f := fun k t => l0 k (acc.set i (mk t)) ((i + 1 : Nat) : Int)) hg h)
theorem all_ends (l0 : Nat → Int → Option Bool) (n : Nat) (hend : ∀ k, l0 (k + 1) (n : Int) = some true)
    (hstep : ∀ i : Nat, i < n → ∃ g : Nat → Option Bool, Ev g true ∧ ∀ k, l0 (k + 1) (i : Int) = (g k).bind (fun t => if t = true then l0 k ((i + 1 : Nat) : Int) else some false)) :
    ∀ d i, i + d = n → Ev (fun k => l0 k (i : Int)) true := by
  intro d
  induction d with
  | zero =>
    intro i hi
    obtain rfl : i = n := by omega
    exact Ev.step (fun k => hend k) (Ev.now true)
  | succ d ih =>
    intro i hi
    obtain ⟨g, hg, hk⟩ := hstep i (by omega)
    exact Ev.step (fun k => hk k) (Ev.bind (f := fun k t => if t = true then l0 k ((i + 1 : Nat) : Int) else some false) hg (by simpa using ih (i + 1) (by omega)))
theorem sz_ends (l0 : Nat → Int → Int → Option Int) (n : Nat) (Sm : Nat → Prop) (hend : ∀ k a, l0 (k + 1) a (n : Int) = some a)
    (hstep : ∀ i : Nat, i < n → ∀ a : Int, 0 ≤ a → a ≤ 1048576 → ∃ (g : Nat → Option Int) (r : Int), Ev g r ∧ (r < 0 ∨ (0 ≤ r ∧ r ≤ a ∧ Sm i)) ∧ ∀ k, l0 (k + 1) a (i : Int) = (g k).bind (fun t => if t < 0 then some (-1) else l0 k t ((i + 1 : Nat) : Int))) :
    ∀ d i (a : Int), i + d = n → 0 ≤ a → a ≤ 1048576 → ∃ r, Ev (fun k => l0 k a (i : Int)) r ∧ (r < 0 ∨ (0 ≤ r ∧ r ≤ a ∧ ∀ j, i ≤ j → j < n → Sm j)) := by
  intro d
  induction d with
  | zero =>
    intro i a hi h0 h1
    obtain rfl : i = n := by omega
    exact ⟨a, Ev.step (fun k => hend k a) (Ev.now a), Or.inr ⟨h0, Int.le_refl _, fun j h1 h2 => absurd h1 (by omega)⟩⟩
  | succ d ih =>
    intro i a hi h0 h1
    obtain ⟨g, r, hg, hr, hk⟩ := hstep i (by omega) a h0 h1
    rcases hr with hr | ⟨hr0, hra, hs⟩
    · exact ⟨-1, Ev.step (fun k => hk k) (Ev.bind (f := fun k t => if t < 0 then some (-1) else l0 k t ((i + 1 : Nat) : Int)) hg (by simp only [if_pos hr]; exact Ev.now _)), Or.inl (by omega)⟩
    · obtain ⟨q, hq, hqq⟩ := ih (i + 1) r (by omega) hr0 (by omega)
      refine ⟨q, Ev.step (fun k => hk k) (Ev.bind (f := fun k t => if t < 0 then some (-1) else l0 k t ((i + 1 : Nat) : Int)) hg (by simp only [if_neg (show ¬ r < 0 by omega)]; exact hq)), ?_⟩
      rcases hqq with h | ⟨a1, a2, a3⟩
      · exact Or.inl h
      · refine Or.inr ⟨a1, by omega, fun j h1 h2 => ?_⟩
        by_cases e : j = i
        · rw [e]; exact hs
        · exact a3 j (by omega) h2
def itemF (x : S104) : S98 := ⟨x.f0, x.f1⟩
def stmF (x : S101) : S96 := ⟨x.f0, x.f1, x.f2, x.f3.map itemF⟩
def stateF (x : S66) : S76 := ⟨x.f0, x.f1, x.f2.map stmF, x.f3.map stmF⟩
def transF (x : S70) : S80 := ⟨x.f0, x.f1, x.f2.map itemF, x.f3, x.f4.map stmF⟩
def Short {α : Type} (l : List α) : Prop := l.length ≤ 1048576
def ShStms (l : List S101) : Prop := Short l ∧ ∀ x ∈ l, Short x.f3
def ShState (x : S66) : Prop := ShStms x.f2 ∧ ShStms x.f3
def ShTrans (x : S70) : Prop := Short x.f2 ∧ ShStms x.f4
theorem rd104 {L : List S104} {i : Nat} {a : S104} (h : L[i]? = some a) : rd_T104 L i = a := by simp [rd_T104, List.getD, h]
theorem rd101 {L : List S101} {i : Nat} {a : S101} (h : L[i]? = some a) : rd_T101 L i = a := by simp [rd_T101, List.getD, h]
theorem rd66 {L : List S66} {i : Nat} {a : S66} (h : L[i]? = some a) : rd_T66 L i = a := by simp [rd_T66, List.getD, h]
theorem rd70 {L : List S70} {i : Nat} {a : S70} (h : L[i]? = some a) : rd_T70 L i = a := by simp [rd_T70, List.getD, h]
theorem get_lt {α : Type} {L : List α} {i : Nat} {a : α} (h : L[i]? = some a) : i < L.length := (List.getElem?_eq_some_iff.1 h).1
theorem toItemS_ev {L : List S104} (h : Short L) : Ev (fun k => laws_toItemS.f k L) (L.map itemF) := by
  unfold Short at h
  have e := copy_ends (fun k acc i => laws_toItemS.l0 k L acc i) L itemF (fun k acc ha => by simp only [laws_toItemS.l0]; rw [if_neg (by omega)]) (fun i a hi => by
    have hlt := get_lt hi
    refine ⟨Int × Int, fun _ => some (a.f0, a.f1), (a.f0, a.f1), fun t => ⟨t.1, t.2⟩, Ev.now _, rfl, fun k acc ha => ?_⟩
    simp only [laws_toItemS.l0]
    rw [if_pos (by omega), if_pos (by omega), rd104 hi]
    simp only [laws_toItem.f, Option.bind_some, Int.toNat_natCast]
    rw [if_pos (by omega), w64s hlt (by omega)]) L.length 0 (List.replicate L.length z98) (by simp) (by omega)
  simp only [List.take_zero, List.nil_append, List.drop_zero, Int.ofNat_zero] at e
  refine Ev.congr (fun k => ?_) e
  unfold laws_toItemS.f
  rw [if_pos (by omega), if_pos (by omega), Int.toNat_natCast]
theorem toStm_ev {x : S101} (h : Short x.f3) : Ev (fun k => laws_toStm.f k x.f0 x.f1 x.f2 x.f3) (x.f0, x.f1, x.f2, x.f3.map itemF) := by
  unfold laws_toStm.f
  exact Ev.bind (toItemS_ev h) (Ev.now _)
theorem toStmS_ev {L : List S101} (h : ShStms L) : Ev (fun k => laws_toStmS.f k L) (L.map stmF) := by
  obtain ⟨h, hs⟩ := h
  unfold Short at h
  have e := copy_ends (fun k acc i => laws_toStmS.l0 k L acc i) L stmF (fun k acc ha => by simp only [laws_toStmS.l0]; rw [if_neg (by omega)]) (fun i a hi => by
    have hlt := get_lt hi
    refine ⟨_, _, _, fun t => ⟨t.1, t.2.1, t.2.2.1, t.2.2.2⟩, toStm_ev (hs a (List.mem_of_getElem? hi)), rfl, fun k acc ha => ?_⟩
    simp only [laws_toStmS.l0]
    rw [if_pos (by omega), if_pos (by omega), rd101 hi]
    congr 1
    funext t
    rw [if_pos (by omega), w64s hlt (by omega), Int.toNat_natCast]) L.length 0 (List.replicate L.length z96) (by simp) (by omega)
  simp only [List.take_zero, List.nil_append, List.drop_zero, Int.ofNat_zero] at e
  refine Ev.congr (fun k => ?_) e
  unfold laws_toStmS.f
  rw [if_pos (by omega), if_pos (by omega), Int.toNat_natCast]
theorem toState_ev {x : S66} (h : ShState x) : Ev (fun k => laws_toState.f k x.f0 x.f1 x.f2 x.f3) (x.f0, x.f1, x.f2.map stmF, x.f3.map stmF) := by
  unfold laws_toState.f
  exact Ev.bind (toStmS_ev h.1) (Ev.bind (toStmS_ev h.2) (Ev.now _))
theorem toTrans_ev {x : S70} (h : ShTrans x) : Ev (fun k => laws_toTrans.f k x.f0 x.f1 x.f2 x.f3 x.f4) (x.f0, x.f1, x.f2.map itemF, x.f3, x.f4.map stmF) := by
  unfold laws_toTrans.f
  exact Ev.bind (toItemS_ev h.1) (Ev.bind (toStmS_ev h.2) (Ev.now _))
theorem toStateS_ev {L : List S66} (h : Short L) (hs : ∀ x ∈ L, ShState x) : Ev (fun k => laws_toStateS.f k L) (L.map stateF) := by
  unfold Short at h
  have e := copy_ends (fun k acc i => laws_toStateS.l0 k L acc i) L stateF (fun k acc ha => by simp only [laws_toStateS.l0]; rw [if_neg (by omega)]) (fun i a hi => by
    have hlt := get_lt hi
    refine ⟨_, _, _, fun t => ⟨t.1, t.2.1, t.2.2.1, t.2.2.2⟩, toState_ev (hs a (List.mem_of_getElem? hi)), rfl, fun k acc ha => ?_⟩
    simp only [laws_toStateS.l0]
    rw [if_pos (by omega), if_pos (by omega), rd66 hi]
    congr 1
    funext t
    rw [if_pos (by omega), w64s hlt (by omega), Int.toNat_natCast]) L.length 0 (List.replicate L.length z76) (by simp) (by omega)
  simp only [List.take_zero, List.nil_append, List.drop_zero, Int.ofNat_zero] at e
  refine Ev.congr (fun k => ?_) e
  unfold laws_toStateS.f
  rw [if_pos (by omega), if_pos (by omega), Int.toNat_natCast]
theorem toTransS_ev {L : List S70} (h : Short L) (hs : ∀ x ∈ L, ShTrans x) : Ev (fun k => laws_toTransS.f k L) (L.map transF) := by
  unfold Short at h
  have e := copy_ends (fun k acc i => laws_toTransS.l0 k L acc i) L transF (fun k acc ha => by simp only [laws_toTransS.l0]; rw [if_neg (by omega)]) (fun i a hi => by
    have hlt := get_lt hi
    refine ⟨_, _, _, fun t => ⟨t.1, t.2.1, t.2.2.1, t.2.2.2.1, t.2.2.2.2⟩, toTrans_ev (hs a (List.mem_of_getElem? hi)), rfl, fun k acc ha => ?_⟩
    simp only [laws_toTransS.l0]
    rw [if_pos (by omega), if_pos (by omega), rd70 hi]
    congr 1
    funext t
    rw [if_pos (by omega), w64s hlt (by omega), Int.toNat_natCast]) L.length 0 (List.replicate L.length z80) (by simp) (by omega)
  simp only [List.take_zero, List.nil_append, List.drop_zero, Int.ofNat_zero] at e
  refine Ev.congr (fun k => ?_) e
  unfold laws_toTransS.f
  rw [if_pos (by omega), if_pos (by omega), Int.toNat_natCast]
structure ShChart (L0 : List S66) (L1 : List S70) : Prop where
  a : Short L0
  b : ∀ x ∈ L0, ShState x
  c : Short L1
  d : ∀ x ∈ L1, ShTrans x
theorem toChart_ev {L0 : List S66} {L1 : List S70} (h : ShChart L0 L1) : Ev (fun k => laws_toChart.f k L0 L1) (L0.map stateF, L1.map transF) := by
  unfold laws_toChart.f
  exact Ev.bind (toStateS_ev h.a h.b) (Ev.bind (toTransS_ev h.c h.d) (Ev.now _))
theorem rd98 {L : List S98} {i : Nat} {a : S98} (h : L[i]? = some a) : rd_T98 L i = a := by simp [rd_T98, List.getD, h]
theorem rd96 {L : List S96} {i : Nat} {a : S96} (h : L[i]? = some a) : rd_T96 L i = a := by simp [rd_T96, List.getD, h]
theorem rd76 {L : List S76} {i : Nat} {a : S76} (h : L[i]? = some a) : rd_T76 L i = a := by simp [rd_T76, List.getD, h]
theorem rd80 {L : List S80} {i : Nat} {a : S80} (h : L[i]? = some a) : rd_T80 L i = a := by simp [rd_T80, List.getD, h]
theorem eqItem_yes (x : S98) : laws_eqItem.f x.f0 x.f1 x.f0 x.f1 = some true := by simp [laws_eqItem.f]
theorem eqItemS_ev {L : List S98} (h : Short L) : Ev (fun k => laws_eqItemS.f k L L) true := by
  unfold Short at h
  have e := all_ends (fun k i => laws_eqItemS.l0 k L L i) L.length (fun k => by simp only [laws_eqItemS.l0]; rw [if_neg (by omega)]) (fun i hi => ⟨fun _ => some true, Ev.now _, fun k => by
    have ha := List.getElem?_eq_getElem hi
    simp only [laws_eqItemS.l0]
    rw [if_pos (by omega), if_pos (by omega), if_pos (by omega), rd98 ha, eqItem_yes, w64s hi (by omega)]⟩) L.length 0 (by omega)
  refine Ev.congr (fun k => ?_) e
  unfold laws_eqItemS.f
  rw [if_pos rfl]
  rfl
theorem eqStm_ev {x : S96} (h : Short x.f3) : Ev (fun k => laws_eqStm.f k x.f0 x.f1 x.f2 x.f3 x.f0 x.f1 x.f2 x.f3) true := by
  unfold laws_eqStm.f
  simp only [if_true]
  exact Ev.bind (f := fun k t => if t = true then some true else some false) (eqItemS_ev h) (by simpa using Ev.now true)
def ShStms2 (l : List S96) : Prop := Short l ∧ ∀ x ∈ l, Short x.f3
theorem eqStmS_ev {L : List S96} (h : ShStms2 L) : Ev (fun k => laws_eqStmS.f k L L) true := by
  obtain ⟨h, hs⟩ := h
  unfold Short at h
  have e := all_ends (fun k i => laws_eqStmS.l0 k L L i) L.length (fun k => by simp only [laws_eqStmS.l0]; rw [if_neg (by omega)]) (fun i hi => ⟨_, eqStm_ev (hs L[i] (List.getElem_mem hi)), fun k => by
    have ha := List.getElem?_eq_getElem hi
    simp only [laws_eqStmS.l0]
    rw [if_pos (by omega), if_pos (by omega), if_pos (by omega), rd96 ha, w64s hi (by omega)]⟩) L.length 0 (by omega)
  refine Ev.congr (fun k => ?_) e
  unfold laws_eqStmS.f
  rw [if_pos rfl]
  rfl
theorem eqState_ev {x : S76} (h : ShStms2 x.f2 ∧ ShStms2 x.f3) : Ev (fun k => laws_eqState.f k x.f0 x.f1 x.f2 x.f3 x.f0 x.f1 x.f2 x.f3) true := by
  unfold laws_eqState.f
  simp only [if_true]
  refine Ev.bind (f := fun k t => if t = true then (laws_eqStmS.f k x.f3 x.f3).bind fun t => if t = true then some true else some false else some false) (eqStmS_ev h.1) ?_
  simp only [if_true]
  exact Ev.bind (f := fun k t => if t = true then some true else some false) (eqStmS_ev h.2) (by simpa using Ev.now true)
theorem eqTrans_ev {x : S80} (h : Short x.f2 ∧ ShStms2 x.f4) : Ev (fun k => laws_eqTrans.f k x.f0 x.f1 x.f2 x.f3 x.f4 x.f0 x.f1 x.f2 x.f3 x.f4) true := by
  unfold laws_eqTrans.f
  simp only [if_true]
  refine Ev.bind (f := fun k t => if t = true then (laws_eqStmS.f k x.f4 x.f4).bind fun t => if t = true then some true else some false else some false) (eqItemS_ev h.1) ?_
  simp only [if_true]
  exact Ev.bind (f := fun k t => if t = true then some true else some false) (eqStmS_ev h.2) (by simpa using Ev.now true)
theorem eqStateS_ev {L : List S76} (h : Short L) (hs : ∀ x ∈ L, ShStms2 x.f2 ∧ ShStms2 x.f3) : Ev (fun k => laws_eqStateS.f k L L) true := by
  unfold Short at h
  have e := all_ends (fun k i => laws_eqStateS.l0 k L L i) L.length (fun k => by simp only [laws_eqStateS.l0]; rw [if_neg (by omega)]) (fun i hi => ⟨_, eqState_ev (hs L[i] (List.getElem_mem hi)), fun k => by
    have ha := List.getElem?_eq_getElem hi
    simp only [laws_eqStateS.l0]
    rw [if_pos (by omega), if_pos (by omega), if_pos (by omega), rd76 ha, w64s hi (by omega)]⟩) L.length 0 (by omega)
  refine Ev.congr (fun k => ?_) e
  unfold laws_eqStateS.f
  rw [if_pos rfl]
  rfl
theorem eqTransS_ev {L : List S80} (h : Short L) (hs : ∀ x ∈ L, Short x.f2 ∧ ShStms2 x.f4) : Ev (fun k => laws_eqTransS.f k L L) true := by
  unfold Short at h
  have e := all_ends (fun k i => laws_eqTransS.l0 k L L i) L.length (fun k => by simp only [laws_eqTransS.l0]; rw [if_neg (by omega)]) (fun i hi => ⟨_, eqTrans_ev (hs L[i] (List.getElem_mem hi)), fun k => by
    have ha := List.getElem?_eq_getElem hi
    simp only [laws_eqTransS.l0]
    rw [if_pos (by omega), if_pos (by omega), if_pos (by omega), rd80 ha, w64s hi (by omega)]⟩) L.length 0 (by omega)
  refine Ev.congr (fun k => ?_) e
  unfold laws_eqTransS.f
  rw [if_pos rfl]
  rfl
theorem short_map {α β : Type} {l : List α} {f : α → β} (h : Short l) : Short (l.map f) := by unfold Short at *; simpa using h
theorem shStms_map {l : List S101} (h : ShStms l) : ShStms2 (l.map stmF) :=
  ⟨short_map h.1, fun x hx => by obtain ⟨a, ha, rfl⟩ := List.mem_map.1 hx; exact short_map (h.2 a ha)⟩
theorem eqChart_ev {L0 : List S66} {L1 : List S70} (h : ShChart L0 L1) : Ev (fun k => laws_eqChart.f k (L0.map stateF) (L1.map transF) (L0.map stateF) (L1.map transF)) true := by
  unfold laws_eqChart.f
  refine Ev.bind (f := fun k t => if t = true then (laws_eqTransS.f k (L1.map transF) (L1.map transF)).bind fun t => if t = true then some true else some false else some false) (eqStateS_ev (short_map h.a) (fun x hx => by obtain ⟨a, ha, rfl⟩ := List.mem_map.1 hx; exact ⟨shStms_map (h.b a ha).1, shStms_map (h.b a ha).2⟩)) ?_
  simp only [if_true]
  exact Ev.bind (f := fun k t => if t = true then some true else some false) (eqTransS_ev (short_map h.c) (fun x hx => by obtain ⟨a, ha, rfl⟩ := List.mem_map.1 hx; exact ⟨short_map (h.d a ha).1, shStms_map (h.d a ha).2⟩)) (by simpa using Ev.now true)
def Fits {α : Type} (l : List α) : Prop := l.length ≤ 9223372036854775807
def FitStms (l : List S101) : Prop := Fits l ∧ ∀ x ∈ l, Fits x.f3
def FitState (x : S66) : Prop := FitStms x.f2 ∧ FitStms x.f3
def FitTrans (x : S70) : Prop := Fits x.f2 ∧ FitStms x.f4
def Cnt (a r : Int) (Q : Prop) : Prop := r < 0 ∨ (0 ≤ r ∧ r ≤ a ∧ Q)
theorem szItemS_is {L : List S104} {a : Int} (h : Fits L) (h0 : 0 ≤ a) (h1 : a ≤ 1048576) : ∃ r, laws_szItemS.f L a = some r ∧ Cnt a r (Short L) := by
  unfold Fits at h
  unfold laws_szItemS.f Cnt Short
  rw [w64 (by omega) (by omega)]
  by_cases hn : a - (L.length : Int) < 0
  · exact ⟨-1, if_pos hn, Or.inl (by omega)⟩
  · exact ⟨_, if_neg hn, Or.inr ⟨by omega, by omega, by omega⟩⟩
theorem szStm_is {x : S101} {a : Int} (h : Fits x.f3) (h0 : 0 ≤ a) (h1 : a ≤ 1048576) : ∃ r, laws_szStm.f x.f0 x.f1 x.f2 x.f3 a = some r ∧ Cnt a r (Short x.f3) := by
  obtain ⟨r, e, hr⟩ := szItemS_is h h0 h1
  unfold laws_szStm.f
  rw [e]
  simp only [Option.bind_some]
  rcases hr with hr | hr
  · exact ⟨-1, if_pos hr, Or.inl (by omega)⟩
  · exact ⟨r, if_neg (by omega), Or.inr hr⟩
theorem mem_all {α : Type} {L : List α} {p : α → Prop} (h : ∀ j, 0 ≤ j → (hj : j < L.length) → p L[j]) : ∀ x ∈ L, p x := fun x hx => by
  obtain ⟨j, hj, rfl⟩ := List.getElem_of_mem hx
  exact h j (Nat.zero_le _) hj
theorem szStmS_ev {L : List S101} {a : Int} (h : FitStms L) (h0 : 0 ≤ a) (h1 : a ≤ 1048576) : ∃ r, Ev (fun k => laws_szStmS.f k L a) r ∧ Cnt a r (ShStms L) := by
  obtain ⟨h, hs⟩ := h
  unfold Fits at h
  unfold laws_szStmS.f
  rw [w64 (by omega) (by omega)]
  by_cases hn : a - (L.length : Int) < 0
  · simp only [if_pos hn]
    exact ⟨-1, Ev.now _, Or.inl (by omega)⟩
  · simp only [if_neg hn]
    obtain ⟨r, e, hr⟩ := sz_ends (fun k a i => laws_szStmS.l0 k L a i) L.length (fun j => ∀ hj : j < L.length, Short L[j].f3) (fun k a => by simp only [laws_szStmS.l0]; rw [if_neg (by omega)]) (fun i hi a h0 h1 => by
      have ha := List.getElem?_eq_getElem hi
      obtain ⟨r, e, hr⟩ := szStm_is (hs L[i] (List.getElem_mem hi)) h0 h1
      refine ⟨fun _ => some r, r, Ev.now _, ?_, fun k => ?_⟩
      · rcases hr with hr | hr
        · exact Or.inl hr
        · exact Or.inr ⟨hr.1, hr.2.1, fun _ => hr.2.2⟩
      · simp only [laws_szStmS.l0]
        rw [if_pos (by omega), if_pos (by omega), rd101 ha, e, w64s hi (by omega)]) L.length 0 (a - L.length) (by omega) (by omega) (by omega)
    refine ⟨r, e, ?_⟩
    rcases hr with hr | ⟨a1, a2, a3⟩
    · exact Or.inl hr
    · exact Or.inr ⟨a1, by omega, by unfold Short; omega, mem_all (fun j h1 h2 => a3 j h1 h2 h2)⟩
theorem szState_ev {x : S66} {a : Int} (h : FitState x) (h0 : 0 ≤ a) (h1 : a ≤ 1048576) : ∃ r, Ev (fun k => laws_szState.f k x.f0 x.f1 x.f2 x.f3 a) r ∧ Cnt a r (ShState x) := by
  unfold laws_szState.f
  obtain ⟨r, e, hr⟩ := szStmS_ev h.1 h0 h1
  rcases hr with hr | ⟨a1, a2, a3⟩
  · exact ⟨-1, Ev.bind (f := fun k t => if t < 0 then some (-1) else (laws_szStmS.f k x.f3 t).bind fun t => if t < 0 then some (-1) else some t) e (by simp only [if_pos hr]; exact Ev.now _), Or.inl (by omega)⟩
  · obtain ⟨q, e2, hq⟩ := szStmS_ev h.2 a1 (show r ≤ 1048576 by omega)
    rcases hq with hq | ⟨b1, b2, b3⟩
    · exact ⟨-1, Ev.bind (f := fun k t => if t < 0 then some (-1) else (laws_szStmS.f k x.f3 t).bind fun t => if t < 0 then some (-1) else some t) e (by simp only [if_neg (show ¬ r < 0 by omega)]; exact Ev.bind (f := fun k t => if t < 0 then some (-1) else some t) e2 (by simp only [if_pos hq]; exact Ev.now _)), Or.inl (by omega)⟩
    · exact ⟨q, Ev.bind (f := fun k t => if t < 0 then some (-1) else (laws_szStmS.f k x.f3 t).bind fun t => if t < 0 then some (-1) else some t) e (by simp only [if_neg (show ¬ r < 0 by omega)]; exact Ev.bind (f := fun k t => if t < 0 then some (-1) else some t) e2 (by simp only [if_neg (show ¬ q < 0 by omega)]; exact Ev.now _)), Or.inr ⟨b1, by omega, a3, b3⟩⟩
theorem szTrans_ev {x : S70} {a : Int} (h : FitTrans x) (h0 : 0 ≤ a) (h1 : a ≤ 1048576) : ∃ r, Ev (fun k => laws_szTrans.f k x.f0 x.f1 x.f2 x.f3 x.f4 a) r ∧ Cnt a r (ShTrans x) := by
  unfold laws_szTrans.f
  obtain ⟨r, e, hr⟩ := szItemS_is h.1 h0 h1
  simp only [e, Option.bind_some]
  rcases hr with hr | ⟨a1, a2, a3⟩
  · simp only [if_pos hr]
    exact ⟨-1, Ev.now _, Or.inl (by omega)⟩
  · simp only [if_neg (show ¬ r < 0 by omega)]
    obtain ⟨q, e2, hq⟩ := szStmS_ev h.2 a1 (show r ≤ 1048576 by omega)
    rcases hq with hq | ⟨b1, b2, b3⟩
    · exact ⟨-1, Ev.bind (f := fun k t => if t < 0 then some (-1) else some t) e2 (by simp only [if_pos hq]; exact Ev.now _), Or.inl (by omega)⟩
    · exact ⟨q, Ev.bind (f := fun k t => if t < 0 then some (-1) else some t) e2 (by simp only [if_neg (show ¬ q < 0 by omega)]; exact Ev.now _), Or.inr ⟨b1, by omega, a3, b3⟩⟩
theorem szStateS_ev {L : List S66} {a : Int} (h : Fits L) (hs : ∀ x ∈ L, FitState x) (h0 : 0 ≤ a) (h1 : a ≤ 1048576) : ∃ r, Ev (fun k => laws_szStateS.f k L a) r ∧ Cnt a r (Short L ∧ ∀ x ∈ L, ShState x) := by
  unfold Fits at h
  unfold laws_szStateS.f
  rw [w64 (by omega) (by omega)]
  by_cases hn : a - (L.length : Int) < 0
  · simp only [if_pos hn]
    exact ⟨-1, Ev.now _, Or.inl (by omega)⟩
  · simp only [if_neg hn]
    obtain ⟨r, e, hr⟩ := sz_ends (fun k a i => laws_szStateS.l0 k L a i) L.length (fun j => ∀ hj : j < L.length, ShState L[j]) (fun k a => by simp only [laws_szStateS.l0]; rw [if_neg (by omega)]) (fun i hi a h0 h1 => by
      have ha := List.getElem?_eq_getElem hi
      obtain ⟨r, e, hr⟩ := szState_ev (hs L[i] (List.getElem_mem hi)) h0 h1
      refine ⟨_, r, e, ?_, fun k => ?_⟩
      · rcases hr with hr | hr
        · exact Or.inl hr
        · exact Or.inr ⟨hr.1, hr.2.1, fun _ => hr.2.2⟩
      · simp only [laws_szStateS.l0]
        rw [if_pos (by omega), if_pos (by omega), rd66 ha, w64s hi (by omega)]) L.length 0 (a - L.length) (by omega) (by omega) (by omega)
    refine ⟨r, e, ?_⟩
    rcases hr with hr | ⟨a1, a2, a3⟩
    · exact Or.inl hr
    · exact Or.inr ⟨a1, by omega, by unfold Short; omega, mem_all (fun j h1 h2 => a3 j h1 h2 h2)⟩
theorem szTransS_ev {L : List S70} {a : Int} (h : Fits L) (hs : ∀ x ∈ L, FitTrans x) (h0 : 0 ≤ a) (h1 : a ≤ 1048576) : ∃ r, Ev (fun k => laws_szTransS.f k L a) r ∧ Cnt a r (Short L ∧ ∀ x ∈ L, ShTrans x) := by
  unfold Fits at h
  unfold laws_szTransS.f
  rw [w64 (by omega) (by omega)]
  by_cases hn : a - (L.length : Int) < 0
  · simp only [if_pos hn]
    exact ⟨-1, Ev.now _, Or.inl (by omega)⟩
  · simp only [if_neg hn]
    obtain ⟨r, e, hr⟩ := sz_ends (fun k a i => laws_szTransS.l0 k L a i) L.length (fun j => ∀ hj : j < L.length, ShTrans L[j]) (fun k a => by simp only [laws_szTransS.l0]; rw [if_neg (by omega)]) (fun i hi a h0 h1 => by
      have ha := List.getElem?_eq_getElem hi
      obtain ⟨r, e, hr⟩ := szTrans_ev (hs L[i] (List.getElem_mem hi)) h0 h1
      refine ⟨_, r, e, ?_, fun k => ?_⟩
      · rcases hr with hr | hr
        · exact Or.inl hr
        · exact Or.inr ⟨hr.1, hr.2.1, fun _ => hr.2.2⟩
      · simp only [laws_szTransS.l0]
        rw [if_pos (by omega), if_pos (by omega), rd70 ha, w64s hi (by omega)]) L.length 0 (a - L.length) (by omega) (by omega) (by omega)
    refine ⟨r, e, ?_⟩
    rcases hr with hr | ⟨a1, a2, a3⟩
    · exact Or.inl hr
    · exact Or.inr ⟨a1, by omega, by unfold Short; omega, mem_all (fun j h1 h2 => a3 j h1 h2 h2)⟩
structure FitChart (L0 : List S66) (L1 : List S70) : Prop where
  a : Fits L0
  b : ∀ x ∈ L0, FitState x
  c : Fits L1
  d : ∀ x ∈ L1, FitTrans x
theorem szChart_ev {L0 : List S66} {L1 : List S70} (h : FitChart L0 L1) : ∃ r, Ev (fun k => laws_szChart.f k L0 L1 1048576) r ∧ (r < 0 ∨ (0 ≤ r ∧ ShChart L0 L1)) := by
  unfold laws_szChart.f
  obtain ⟨r, e, hr⟩ := szStateS_ev (a := 1048576) h.a h.b (by omega) (by omega)
  rcases hr with hr | ⟨a1, a2, a3, a4⟩
  · exact ⟨-1, Ev.bind (f := fun k t => if t < 0 then some (-1) else (laws_szTransS.f k L1 t).bind fun t => if t < 0 then some (-1) else some t) e (by simp only [if_pos hr]; exact Ev.now _), Or.inl (by omega)⟩
  · obtain ⟨q, e2, hq⟩ := szTransS_ev h.c h.d a1 a2
    rcases hq with hq | ⟨b1, b2, b3, b4⟩
    · exact ⟨-1, Ev.bind (f := fun k t => if t < 0 then some (-1) else (laws_szTransS.f k L1 t).bind fun t => if t < 0 then some (-1) else some t) e (by simp only [if_neg (show ¬ r < 0 by omega)]; exact Ev.bind (f := fun k t => if t < 0 then some (-1) else some t) e2 (by simp only [if_pos hq]; exact Ev.now _)), Or.inl (by omega)⟩
    · exact ⟨q, Ev.bind (f := fun k t => if t < 0 then some (-1) else (laws_szTransS.f k L1 t).bind fun t => if t < 0 then some (-1) else some t) e (by simp only [if_neg (show ¬ r < 0 by omega)]; exact Ev.bind (f := fun k t => if t < 0 then some (-1) else some t) e2 (by simp only [if_neg (show ¬ q < 0 by omega)]; exact Ev.now _)), Or.inr ⟨b1, ⟨a3, a4, b3, b4⟩⟩⟩
end Go.Proofs.Ytolcdkanebopiaa.Tree
