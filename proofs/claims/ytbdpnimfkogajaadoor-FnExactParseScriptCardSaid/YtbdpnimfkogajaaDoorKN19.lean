/- Proved here: plain laws of eqScriptItemS, markScriptItemS and heldScriptItemS: a row equals itself; what is marked is found held. -/
import Derived.Test.YtbdpnimfkogajaaDoorKN18
import Derived.Test.YtbdpnimfkogajaaDoorKX5
namespace Go.Proofs.YtbdpnimfkogajaaDoor.Txt
open Go.RowKit Go.Proofs.YtbdpnimfkogajaaDoorW.PrintWords Go.Proofs.YtbdpnimfkogajaaDoorW.PrintLast Go.Proofs.YtbdpnimfkogajaaDoorW.PrintMore Go.Proofs.YtbdpnimfkogajaaDoor.PFnExactParseScript
set_option linter.unusedVariables false
theorem eq_loop (L : List S31) (hl : L.length ≤ 1000000) : ∀ (d i : Nat), i + d = L.length → ∀ k, d + 1 ≤ k → laws_eqScriptItemS.l0 k L L (i : Int) = some true := by
  intro d
  induction d with
  | zero =>
    intro i hi k hk
    obtain ⟨k, rfl⟩ : ∃ q, k = q + 1 := ⟨k - 1, by omega⟩
    rw [laws_eqScriptItemS.l0, if_neg (by omega)]
  | succ d ih =>
    intro i hi k hk
    obtain ⟨k, rfl⟩ : ∃ q, k = q + 1 := ⟨k - 1, by omega⟩
    have h1 : (i : Int) < (L.length : Int) := by omega
    have h0 : (0 : Int) ≤ (i : Int) := Int.natCast_nonneg i
    have hw : wrap64 ((i : Int) + 1) = ((i + 1 : Nat) : Int) := by rw [wrap_in (by omega) (by omega)]; rfl
    have he : ∀ x : S31, laws_eqScriptItem.f x.f0 x.f1 x.f2 x.f3 x.f0 x.f1 x.f2 x.f3 = some true := fun x => by
      unfold laws_eqScriptItem.f
      rw [if_pos rfl, if_pos rfl, if_pos rfl, if_pos rfl]
    rw [laws_eqScriptItemS.l0, if_pos h1, if_pos h0, if_pos h1, he, Option.bind_some, if_pos rfl, hw]
    exact ih (i + 1) (by omega) k (by omega)
theorem eq_f (L : List S31) (hl : L.length ≤ 1000000) : laws_eqScriptItemS.f (L.length + 1) L L = some true := by
  unfold laws_eqScriptItemS.f
  rw [if_pos rfl]
  exact eq_loop L hl L.length 0 (by omega) _ (Nat.le_refl _)
def mk4 (j : Nat) : S31 := ⟨((4 * j + 1 : Nat) : Int), ((4 * j + 2 : Nat) : Int), ((4 * j + 3 : Nat) : Int), ((4 * j + 4 : Nat) : Int)⟩
def cnt : Nat → Nat → List S31
  | _, 0 => []
  | i, d + 1 => mk4 i :: cnt (i + 1) d
theorem cnt_len : ∀ (d i : Nat), (cnt i d).length = d
  | 0, _ => rfl
  | d + 1, i => by rw [cnt, List.length_cons, cnt_len d]
theorem cnt_get : ∀ (d i j : Nat), j < d → (cnt i d)[j]? = some (mk4 (i + j))
  | 0, _, _, h => by omega
  | d + 1, i, 0, _ => rfl
  | d + 1, i, j + 1, h => by
    rw [cnt, List.getElem?_cons_succ, cnt_get d (i + 1) j (by omega)]
    congr 2; omega
theorem rd_set {X : List S31} {i : Nat} {v : S31} (h : i < X.length) : rd_T31 (X.set i v) (i : Int) = v := by
  unfold rd_T31
  rw [show ((i : Int)).toNat = i by omega, List.getD_eq_getElem?_getD, List.getElem?_set_self h]
  rfl
theorem mark_loop (n : Nat) (hn : n ≤ 1000000) : ∀ (d i : Nat) (X : List S31), X.length = n → i + d = n → ∀ k, d + 1 ≤ k → laws_markScriptItemS.l0 k X ((4 * i + 1 : Nat) : Int) (i : Int) = some (((4 * n + 1 : Nat) : Int), X.take i ++ cnt i d) := by
  intro d
  induction d with
  | zero =>
    intro i X hX hi k hk
    obtain ⟨k, rfl⟩ : ∃ q, k = q + 1 := ⟨k - 1, by omega⟩
    rw [laws_markScriptItemS.l0, if_neg (by omega)]
    obtain rfl : i = n := by omega
    rw [cnt, List.append_nil, List.take_of_length_le (by omega)]
  | succ d ih =>
    intro i X hX hi k hk
    obtain ⟨k, rfl⟩ : ∃ q, k = q + 1 := ⟨k - 1, by omega⟩
    have h1 : (i : Int) < (X.length : Int) := by omega
    have h0 : (0 : Int) ≤ (i : Int) := Int.natCast_nonneg i
    have hlt : i < X.length := by omega
    have hw : wrap64 ((i : Int) + 1) = ((i + 1 : Nat) : Int) := by rw [wrap_in (by omega) (by omega)]; rfl
    have w1 : wrap64 (((4 * i + 1 : Nat) : Int) + 1) = ((4 * i + 2 : Nat) : Int) := by rw [wrap_in (by omega) (by omega)]; omega
    have w2 : wrap64 (((4 * i + 2 : Nat) : Int) + 1) = ((4 * i + 3 : Nat) : Int) := by rw [wrap_in (by omega) (by omega)]; omega
    have w3 : wrap64 (((4 * i + 3 : Nat) : Int) + 1) = ((4 * i + 4 : Nat) : Int) := by rw [wrap_in (by omega) (by omega)]; omega
    have w4 : wrap64 (((4 * i + 4 : Nat) : Int) + 1) = ((4 * (i + 1) + 1 : Nat) : Int) := by rw [wrap_in (by omega) (by omega)]; omega
    have ht : ((i : Int)).toNat = i := by omega
    rw [laws_markScriptItemS.l0, if_pos h1, if_pos h0]
    simp only [Option.bind_some, w1, w2, w3, w4, hw, ht]
    rw [rd_set hlt]
    rw [rd_set (by rw [List.length_set]; exact hlt)]
    rw [rd_set (by rw [List.length_set, List.length_set]; exact hlt)]
    simp only [List.set_set]
    rw [ih (i + 1) _ (by rw [List.length_set]; exact hX) (by omega) k (by omega)]
    congr 2
    rw [cnt]
    have : (X.set i (mk4 i)).take (i + 1) = X.take i ++ [mk4 i] := by
      rw [List.take_add_one, List.getElem?_set_self hlt, List.take_set_of_le (Nat.le_refl _)]
      rfl
    show (X.set i (mk4 i)).take (i + 1) ++ _ = _
    rw [this]
    simp
theorem mark_f (L : List S31) (hl : L.length ≤ 1000000) : laws_markScriptItemS.f (L.length + 1) L 1 = some (((4 * L.length + 1 : Nat) : Int), cnt 0 L.length) := by
  have := mark_loop L.length hl L.length 0 L rfl (by omega) _ (Nat.le_refl _)
  simpa [laws_markScriptItemS.f] using this
theorem held_loop (n : Nat) (hn : n ≤ 1000000) : ∀ (d i : Nat), i + d = n → ∀ k, d + 1 ≤ k → laws_heldScriptItemS.l0 k (cnt 0 n) ((4 * i + 1 : Nat) : Int) (i : Int) = some ((4 * n + 1 : Nat) : Int) := by
  intro d
  induction d with
  | zero =>
    intro i hi k hk
    obtain ⟨k, rfl⟩ : ∃ q, k = q + 1 := ⟨k - 1, by omega⟩
    obtain rfl : i = n := by omega
    rw [laws_heldScriptItemS.l0, if_neg (by rw [cnt_len]; omega)]
  | succ d ih =>
    intro i hi k hk
    obtain ⟨k, rfl⟩ : ∃ q, k = q + 1 := ⟨k - 1, by omega⟩
    have h1 : (i : Int) < ((cnt 0 n).length : Int) := by rw [cnt_len]; omega
    have h0 : (0 : Int) ≤ (i : Int) := Int.natCast_nonneg i
    have hrd : rd_T31 (cnt 0 n) (i : Int) = mk4 i := by
      unfold rd_T31
      rw [show ((i : Int)).toNat = i by omega, List.getD_eq_getElem?_getD, cnt_get n 0 i (by omega), Nat.zero_add]
      rfl
    have hw : wrap64 ((i : Int) + 1) = ((i + 1 : Nat) : Int) := by rw [wrap_in (by omega) (by omega)]; rfl
    have w1 : wrap64 (((4 * i + 1 : Nat) : Int) + 1) = ((4 * i + 2 : Nat) : Int) := by rw [wrap_in (by omega) (by omega)]; omega
    have w2 : wrap64 (((4 * i + 2 : Nat) : Int) + 1) = ((4 * i + 3 : Nat) : Int) := by rw [wrap_in (by omega) (by omega)]; omega
    have w3 : wrap64 (((4 * i + 3 : Nat) : Int) + 1) = ((4 * i + 4 : Nat) : Int) := by rw [wrap_in (by omega) (by omega)]; omega
    have w4 : wrap64 (((4 * i + 4 : Nat) : Int) + 1) = ((4 * (i + 1) + 1 : Nat) : Int) := by rw [wrap_in (by omega) (by omega)]; omega
    have e0 : (mk4 i).f0 = ((4 * i + 1 : Nat) : Int) := rfl
    have e1 : (mk4 i).f1 = ((4 * i + 2 : Nat) : Int) := rfl
    have e2 : (mk4 i).f2 = ((4 * i + 3 : Nat) : Int) := rfl
    have e3 : (mk4 i).f3 = ((4 * i + 4 : Nat) : Int) := rfl
    rw [laws_heldScriptItemS.l0, if_pos h1, if_pos h0, hrd, w1, w2, w3, w4, hw, if_pos e0, if_pos e1, if_pos e2, if_pos e3]
    exact ih (i + 1) (by omega) k (by omega)
theorem held_f (n : Nat) (hn : n ≤ 1000000) : laws_heldScriptItemS.f (n + 1) (cnt 0 n) 1 = some ((4 * n + 1 : Nat) : Int) := by
  have := held_loop n hn n 0 (by omega) _ (Nat.le_refl _)
  simpa [laws_heldScriptItemS.f] using this
theorem says_len {text : ByteArray} {xs : List S31} {l : Int} (h : Says text xs l) : xs.length ≤ 100000 := by
  rcases h with ⟨_, rfl, _⟩ | ⟨hs, h⟩
  · simp
  · rcases h with ⟨h, _⟩ | ⟨rfl, _⟩
    · have h1 := h.len
      have h2 := pieces_len text 10 (text.size + 1) 0 0
      simp at h1
      omega
    · simp
end Go.Proofs.YtbdpnimfkogajaaDoor.Txt
