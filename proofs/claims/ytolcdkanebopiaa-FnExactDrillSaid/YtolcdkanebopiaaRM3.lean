/- Proved here, in plain Lean: a row of numbers equals itself; what markIntS writes, heldIntS finds; what the reference's Ancestors and Drill answer. -/
import Derived.Test.YtolcdkanebopiaaRM2
import Derived.Test.YtolcdkanebopiaaRA2
import Derived.Test.YtolcdkanebopiaaRC2
namespace Go.Proofs.Ytolcdkanebopiaa.Tree
open Go.RowKit Go.Proofs.YtolcdkanebopiaaW.PrintWords Go.Proofs.YtolcdkanebopiaaW.PrintLast Go.Proofs.YtolcdkanebopiaaW.PrintMore Go.Proofs.Ytolcdkanebopiaa.PFnExactDomain
set_option linter.unusedVariables false
set_option linter.unusedSimpArgs false
theorem eqIntS_ev {L : List Int} (h : Short L) : Ev (fun k => laws_eqIntS.f k L L) true := by
  unfold Short at h
  have e := all_ends (fun k i => laws_eqIntS.l0 k L L i) L.length (fun k => by simp only [laws_eqIntS.l0]; rw [if_neg (by omega)]) (fun i hi => ⟨fun _ => some true, Ev.now _, fun k => by
    simp only [laws_eqIntS.l0]
    rw [if_pos (by omega), if_pos (by omega), if_pos (by omega), if_pos True.intro, w64s hi (by omega)]
    rfl⟩) L.length 0 (by omega)
  refine Ev.congr (fun k => ?_) e
  unfold laws_eqIntS.f
  rw [if_pos rfl]
  rfl
def cnt (i d : Nat) : List Int := (List.range' i d).map fun (j : Nat) => ((j + 1 : Nat) : Int)
theorem cnt_len (i d : Nat) : (cnt i d).length = d := by simp [cnt]
theorem cnt_get {n i : Nat} (h : i < n) : (cnt 0 n)[i]? = some ((i + 1 : Nat) : Int) := by simp [cnt, List.getElem?_range', h]
theorem mark_ends (n : Nat) (hn : n ≤ 1048576) : ∀ d i (X : List Int), X.length = n → i + d = n → Ev (fun k => laws_markIntS.l0 k X ((i + 1 : Nat) : Int) (i : Int)) (((n + 1 : Nat) : Int), X.take i ++ cnt i d) := by
  intro d
  induction d with
  | zero =>
    intro i X hX hi
    obtain rfl : i = n := by omega
    rw [← hX, List.take_length]
    refine Ev.step (f := fun _ => some (((X.length + 1 : Nat) : Int), X)) (fun k => ?_) ?_
    · simp only [laws_markIntS.l0]; rw [if_neg (by omega)]
    · simp only [cnt, List.range'_zero, List.map_nil, List.append_nil]; exact Ev.now _
  | succ d ih =>
    intro i X hX hi
    have h := ih (i + 1) (X.set i ((i + 1 : Nat) : Int)) (by simpa using hX) (by omega)
    have e : (X.set i ((i + 1 : Nat) : Int)).take (i + 1) ++ cnt (i + 1) d = X.take i ++ cnt i (d + 1) := by
      rw [List.take_succ_eq_append_getElem (by simpa using (show i < X.length by omega))]
      simp [cnt, List.take_set_of_le, List.range'_succ]
    rw [← e]
    refine Ev.step (fun k => ?_) h
    simp only [laws_markIntS.l0]
    rw [if_pos (by omega), if_pos (by omega), Int.toNat_natCast, w64 (by omega) (by omega), w64 (by omega) (by omega)]
    rfl
theorem mark_ev {L : List Int} (h : Short L) : Ev (fun k => laws_markIntS.f k L 1) (((L.length + 1 : Nat) : Int), cnt 0 L.length) := by
  have := mark_ends L.length h L.length 0 L rfl (by omega)
  simp only [List.take_zero, List.nil_append] at this
  exact this
theorem held_ends (n : Nat) (hn : n ≤ 1048576) : ∀ d i, i + d = n → Ev (fun k => laws_heldIntS.l0 k (cnt 0 n) ((i + 1 : Nat) : Int) (i : Int)) ((n + 1 : Nat) : Int) := by
  intro d
  induction d with
  | zero =>
    intro i hi
    obtain rfl : i = n := by omega
    exact Ev.step (f := fun _ => some ((i + 1 : Nat) : Int)) (fun k => by simp only [laws_heldIntS.l0]; rw [if_neg (by rw [cnt_len]; omega)]) (Ev.now _)
  | succ d ih =>
    intro i hi
    refine Ev.step (fun k => ?_) (ih (i + 1) (by omega))
    have hg := cnt_get (n := n) (i := i) (by omega)
    have hr : rd (cnt 0 n) (i : Int) = ((i + 1 : Nat) : Int) := by simp [rd, List.getD, hg]
    simp only [laws_heldIntS.l0]
    rw [if_pos (by rw [cnt_len]; omega), if_pos (by omega), if_pos hr, w64 (by omega) (by omega), w64 (by omega) (by omega)]
    rfl
theorem held_ev {n : Nat} (hn : n ≤ 1048576) : Ev (fun k => laws_heldIntS.f k (cnt 0 n) 1) ((n + 1 : Nat) : Int) := by
  exact held_ends n hn n 0 (by omega)
theorem down_ev {S : List S76} {T : List S80} (hg : Good S T) : ∀ d i m, S.length ≤ i + d → i < S.length → m ≤ S.length → (iniS S i < 0 ∨ (S.length : Int) ≤ m + iniS S i) → Ev (fun k => spec_l2Down.f k S T (i : Int)) (ints (down (iniS S) m (iniS S i))) := by
  have hn := hg.n2
  intro d
  induction d with
  | zero => intro i m h0 hi; omega
  | succ d ih =>
    intro i m h0 hi hm hf
    obtain ⟨hlt, hgt⟩ := hg.down i hi
    by_cases hz : iniS S i < 0
    · rw [down_neg hz]
      refine Ev.step (f := fun _ => some []) (fun k => ?_) (Ev.now _)
      simp only [spec_l2Down.f]
      rw [if_pos (by omega), if_pos (by omega), iniS_rd, if_pos hz]
    · obtain ⟨j, hj⟩ := Int.eq_ofNat_of_zero_le (show 0 ≤ iniS S i by omega)
      rw [hj] at hlt hgt hz hf ⊢
      obtain ⟨m', rfl⟩ : ∃ m', m = m' + 1 := ⟨m - 1, by omega⟩
      have hdn := down_len (iniS S) m' (iniS S j)
      obtain ⟨hlt2, hgt2⟩ := hg.down j (by omega)
      rw [down, if_neg hz, Int.toNat_natCast]
      refine Ev.step (f := fun k => (spec_l2Down.f k S T (j : Int)).bind fun t => if ([(j : Int)] : List Int).length + t.length < 17592186044416 then some ([(j : Int)] ++ t) else none) (fun k => ?_) (Ev.bind (f := fun k t => if ([(j : Int)] : List Int).length + t.length < 17592186044416 then some ([(j : Int)] ++ t) else none) (ih j m' (by omega) (by omega) (by omega) (by omega)) ?_)
      · simp only [spec_l2Down.f]
        rw [if_pos (by omega), if_pos (by omega), iniS_rd, hj, if_neg hz, Option.bind_some]
      · refine Ev.congr (fun k => if_pos ?_) (Ev.now _)
        rw [ints_len, List.length_singleton]
        omega
theorem spec_Drill_ev {S : List S76} {T : List S80} (hS : Short S) (a : Int) : ∃ l, Ev (fun k => spec_Drill.f k S T a) (ints l) ∧ DrillIs S T a l ∧ l.length ≤ 200 := by
  obtain ⟨u, eu, hu⟩ := asked_ev (T := T) hS a
  unfold spec_Drill.f
  by_cases hu2 : u = true
  · obtain ⟨hg, ha⟩ := hu.1 hu2
    obtain ⟨a, rfl⟩ := Int.eq_ofNat_of_zero_le ha.1
    have hl := down_len (iniS S) S.length (iniS S a)
    have hn := hg.n2
    obtain ⟨h1, h2⟩ := hg.down a (by omega)
    exact ⟨down (iniS S) S.length (iniS S a), Ev.bind (f := fun k t => if t = true then ((spec_l2Down.f k S T (a : Int)).bind fun t273 => (some t273)) else (some (([] : List Int)))) eu (Ev.congr (fun k => if_pos hu2) (Ev.bind (down_ev (T := T) hg S.length a S.length (by omega) (by omega) (by omega) (by omega)) (Ev.now _))), Or.inl ⟨hg, ha, by rw [Int.toNat_natCast]⟩, by omega⟩
  · exact ⟨[], Ev.bind (f := fun k t => if t = true then ((spec_l2Down.f k S T a).bind fun t273 => (some t273)) else (some (([] : List Int)))) eu (Ev.congr (fun k => if_neg hu2) (Ev.now _)), Or.inr ⟨fun h => hu2 (hu.2 h), rfl⟩, by simp⟩
end Go.Proofs.Ytolcdkanebopiaa.Tree
