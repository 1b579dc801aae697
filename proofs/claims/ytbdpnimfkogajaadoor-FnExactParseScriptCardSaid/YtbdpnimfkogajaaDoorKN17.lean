/- Proved here: plain laws: what the reference's l5Split, l5Place, l5Numbers and l5ScriptItem give. -/
import Derived.Test.YtbdpnimfkogajaaDoorKN16
import Derived.Test.YtbdpnimfkogajaaDoorKX4
import Derived.Test.YtbdpnimfkogajaaDoorKN14
namespace Go.Proofs.YtbdpnimfkogajaaDoor.Txt
open Go.RowKit Go.Proofs.YtbdpnimfkogajaaDoorW.PrintWords Go.Proofs.YtbdpnimfkogajaaDoorW.PrintLast Go.Proofs.YtbdpnimfkogajaaDoorW.PrintMore Go.Proofs.YtbdpnimfkogajaaDoor.PFnExactParseScript
set_option linter.unusedVariables false
theorem bt_at_nat {s : ByteArray} {i : Nat} (h : i < s.size) : bt s (i : Int) = ((s[i].toNat : Nat) : Int) := by
  unfold bt
  rw [dif_pos (show ((i : Int)).toNat < s.size by omega)]
  rfl
theorem split_loop {s : ByteArray} {c : UInt8} (hs : s.size ≤ 1048576) : ∀ (d i fr : Nat) (done : List ByteArray), s.size = i + d → fr ≤ i → done.length ≤ i → ∀ k, d + 1 ≤ k →
    spec_l5Split.l0 k s (c.toNat : Int) done (fr : Int) (i : Int) = some (done ++ pieces s c (d + 1) fr i) := by
  intro d
  induction d with
  | zero =>
    intro i fr done hi hfr hdl k hk
    obtain ⟨k, rfl⟩ : ∃ q, k = q + 1 := ⟨k - 1, by omega⟩
    have h1 : ¬ (i : Int) < (s.size : Int) := by omega
    have h2 : (0 : Int) ≤ (fr : Int) := Int.natCast_nonneg fr
    have h3 : (fr : Int) ≤ (s.size : Int) := by omega
    have h4 : done.length < 8796093022208 := by omega
    rw [spec_l5Split.l0, if_neg h1, if_pos h2, if_pos h3, if_pos h4, pieces_end (by omega)]
    rfl
  | succ d ih =>
    intro i fr done hi hfr hdl k hk
    obtain ⟨k, rfl⟩ : ∃ q, k = q + 1 := ⟨k - 1, by omega⟩
    have hlt : i < s.size := by omega
    have h1 : (i : Int) < (s.size : Int) := by omega
    have h2 : (0 : Int) ≤ (i : Int) := Int.natCast_nonneg i
    have h3 : (0 : Int) ≤ (fr : Int) := Int.natCast_nonneg fr
    have h4 : (fr : Int) ≤ (i : Int) := by omega
    have h5 : (i : Int) ≤ (s.size : Int) := by omega
    have h6 : done.length < 8796093022208 := by omega
    have hw : wrap64 ((i : Int) + 1) = ((i + 1 : Nat) : Int) := by rw [wrap_in (by omega) (by omega)]; rfl
    rw [spec_l5Split.l0, if_pos h1, if_pos h2, bt_at_nat hlt]
    by_cases hc : s[i] = c
    · rw [if_pos (by rw [hc]), if_pos h3, if_pos h4, if_pos h5, if_pos h6, hw, ih (i + 1) (i + 1) _ (by omega) (Nat.le_refl _) (by simp; omega) k (by omega), pieces_cut hlt hc]
      simp
    · rw [if_neg (fun e => hc (UInt8.toNat_inj.1 (by omega))), hw, ih (i + 1) fr done (by omega) (by omega) (by omega) k (by omega), pieces_on hlt hc]
theorem split_f {s : ByteArray} {c : UInt8} (hs : s.size ≤ 1048576) : ∀ k, s.size + 1 ≤ k → spec_l5Split.f k s (c.toNat : Int) = some (pieces s c (s.size + 1) 0 0) := by
  intro k hk
  have := split_loop (c := c) hs s.size 0 0 [] (by omega) (Nat.le_refl _) (Nat.zero_le _) k hk
  simpa [spec_l5Split.f] using this
def Nums : List ByteArray → List Int → Prop
  | [], vs => vs = []
  | x :: l, vs => ∃ v q, vs = v :: q ∧ NumOK x v ∧ Nums l q
theorem numbers_loop (rest : List ByteArray) (hl : rest.length ≤ 100) : ∀ (tail : List ByteArray) (i : Nat) (acc : List Int), rest.drop i = tail → acc.length = i →
    ∃ (K : Nat) (vs : List Int) (ok : Bool), (∀ k, K ≤ k → spec_l5Numbers.l0 k rest (rest.length : Int) acc (i : Int) = some (if ok then acc ++ vs else [], ok)) ∧ (ok = true → Nums tail vs) ∧ (ok = false → ∀ vs, ¬ Nums tail vs) := by
  intro tail
  induction tail with
  | nil =>
    intro i acc hd ha
    have hlen := congrArg List.length hd
    rw [List.length_drop, List.length_nil] at hlen
    refine ⟨1, [], true, ?_, (fun _ => rfl), (fun h => Bool.noConfusion h)⟩
    intro k hk
    obtain ⟨k, rfl⟩ : ∃ q, k = q + 1 := ⟨k - 1, by omega⟩
    rw [spec_l5Numbers.l0, if_neg (by omega)]
    simp
  | cons x tail ih =>
    intro i acc hd ha
    have hlen := congrArg List.length hd
    rw [List.length_drop, List.length_cons] at hlen
    have hx : rest[i]? = some x := by
      have := congrArg List.head? hd
      rwa [List.head?_drop] at this
    have hd' : rest.drop (i + 1) = tail := by rw [← List.drop_drop, hd]; rfl
    have hrd : rdOf ByteArray.empty rest (i : Int) = x := by
      unfold rdOf
      rw [show ((i : Int)).toNat = i by omega, List.getD_eq_getElem?_getD, hx]
      rfl
    have hw : wrap64 ((i : Int) + 1) = ((i + 1 : Nat) : Int) := by rw [wrap_in (by omega) (by omega)]; rfl
    have h1 : (i : Int) < (rest.length : Int) := by omega
    have h2 : ¬ (i : Int) ≥ (rest.length : Int) := by omega
    have h3 : (0 : Int) ≤ (i : Int) := Int.natCast_nonneg i
    have h4 : acc.length < 17592186044416 := by omega
    obtain ⟨K1, n, ok1, hf, hyes, hno⟩ := number_f x
    cases ok1 with
    | false =>
      refine ⟨K1 + 1, [], false, ?_, (fun h => Bool.noConfusion h), ?_⟩
      · intro k hk
        obtain ⟨k, rfl⟩ : ∃ q, k = q + 1 := ⟨k - 1, by omega⟩
        rw [spec_l5Numbers.l0, if_pos h1, if_neg h2, if_pos h3, if_pos h1, hrd, hf k (by omega), Option.bind_some, if_neg (fun e => Bool.noConfusion e)]
        rfl
      · rintro _ vs ⟨v, q, rfl, hv, _⟩
        exact hno rfl v hv
    | true =>
      obtain ⟨K2, vs, ok, hl2, hy2, hn2⟩ := ih (i + 1) (acc ++ [n]) hd' (by simp; omega)
      refine ⟨K1 + K2 + 1, n :: vs, ok, ?_, (fun h => ⟨n, vs, rfl, hyes rfl, hy2 h⟩), ?_⟩
      · intro k hk
        obtain ⟨k, rfl⟩ : ∃ q, k = q + 1 := ⟨k - 1, by omega⟩
        rw [spec_l5Numbers.l0, if_pos h1, if_neg h2, if_pos h3, if_pos h1, hrd, hf k (by omega), Option.bind_some, if_pos rfl, if_pos h4, hw, hl2 k (by omega)]
        simp
      · rintro h _ ⟨v, q, rfl, hv, hq⟩
        exact hn2 h q hq
theorem numbers_f (rest : List ByteArray) (hl : rest.length ≤ 100) : ∃ (K : Nat) (vs : List Int) (ok : Bool), (∀ k, K ≤ k → spec_l5Numbers.f k rest (rest.length : Int) = some (if ok then vs else [], ok)) ∧ (ok = true → Nums rest vs) ∧ (ok = false → ∀ vs, ¬ Nums rest vs) := by
  obtain ⟨K, vs, ok, h1, h2, h3⟩ := numbers_loop rest hl rest 0 [] rfl rfl
  exact ⟨K, vs, ok, h1, h2, h3⟩
def placeOf (s : ByteArray) : Int := if s = kPost then 0 else if s = kPublish then 1 else if s = kTick then 2 else if s = kRun then 3 else -1
theorem list_inj {s t : ByteArray} : t.toList = s.toList ↔ s = t := by
  rw [ByteArray.toList_eq, ByteArray.toList_eq]
  constructor
  · intro h
    apply ByteArray.ext
    apply Array.toList_inj.1
    exact h.symm
  · rintro rfl; rfl
theorem place_f (s : ByteArray) : ∀ k, 6 ≤ k → spec_l5Place.f k [kPost, kPublish, kTick, kRun] s = some (placeOf s) := by
  intro k hk
  obtain ⟨k, rfl⟩ : ∃ q, k = q + 5 := ⟨k - 5, by omega⟩
  have w0 : wrap64 (0 + 1) = 1 := by unfold wrap64; omega
  have w1 : wrap64 (1 + 1) = 2 := by unfold wrap64; omega
  have w2 : wrap64 (2 + 1) = 3 := by unfold wrap64; omega
  have w3 : wrap64 (3 + 1) = 4 := by unfold wrap64; omega
  have r0 : rdOf ByteArray.empty [kPost, kPublish, kTick, kRun] 0 = kPost := rfl
  have r1 : rdOf ByteArray.empty [kPost, kPublish, kTick, kRun] 1 = kPublish := rfl
  have r2 : rdOf ByteArray.empty [kPost, kPublish, kTick, kRun] 2 = kTick := rfl
  have r3 : rdOf ByteArray.empty [kPost, kPublish, kTick, kRun] 3 = kRun := rfl
  have hl : (([kPost, kPublish, kTick, kRun] : List ByteArray).length : Int) = 4 := rfl
  unfold spec_l5Place.f placeOf
  rw [hl]
  rw [spec_l5Place.l0, if_pos (by omega), if_pos (by omega), hl, if_pos (by omega), r0]
  by_cases e0 : s = kPost
  · rw [if_pos (list_inj.2 e0), if_pos e0]
  rw [if_neg (fun h => e0 (list_inj.1 h)), if_neg e0, w0, spec_l5Place.l0, if_pos (by omega), if_pos (by omega), hl, if_pos (by omega), r1]
  by_cases e1 : s = kPublish
  · rw [if_pos (list_inj.2 e1), if_pos e1]
  rw [if_neg (fun h => e1 (list_inj.1 h)), if_neg e1, w1, spec_l5Place.l0, if_pos (by omega), if_pos (by omega), hl, if_pos (by omega), r2]
  by_cases e2 : s = kTick
  · rw [if_pos (list_inj.2 e2), if_pos e2]
  rw [if_neg (fun h => e2 (list_inj.1 h)), if_neg e2, w2, spec_l5Place.l0, if_pos (by omega), if_pos (by omega), hl, if_pos (by omega), r3]
  by_cases e3 : s = kRun
  · rw [if_pos (list_inj.2 e3), if_pos e3]
  rw [if_neg (fun h => e3 (list_inj.1 h)), if_neg e3, w3, spec_l5Place.l0, if_neg (by omega)]
theorem nums_one {a : ByteArray} {vs : List Int} : Nums [a] vs ↔ ∃ u, vs = [u] ∧ NumOK a u := by
  constructor
  · rintro ⟨v, q, rfl, hv, rfl⟩; exact ⟨v, rfl, hv⟩
  · rintro ⟨u, rfl, h⟩; exact ⟨u, [], rfl, h, rfl⟩
theorem nums_two {a b : ByteArray} {vs : List Int} : Nums [a, b] vs ↔ ∃ u v, vs = [u, v] ∧ NumOK a u ∧ NumOK b v := by
  constructor
  · rintro ⟨v, q, rfl, hv, h⟩
    obtain ⟨u, rfl, hu⟩ := nums_one.1 h
    exact ⟨v, u, rfl, hv, hu⟩
  · rintro ⟨u, v, rfl, h1, h2⟩; exact ⟨u, [v], rfl, h1, nums_one.2 ⟨v, rfl, h2⟩⟩
theorem nums_three {a b c : ByteArray} {vs : List Int} : Nums [a, b, c] vs ↔ ∃ u v t, vs = [u, v, t] ∧ NumOK a u ∧ NumOK b v ∧ NumOK c t := by
  constructor
  · rintro ⟨v, q, rfl, hv, h⟩
    obtain ⟨u, t, rfl, hu, ht⟩ := nums_two.1 h
    exact ⟨v, u, t, rfl, hv, hu, ht⟩
  · rintro ⟨u, v, t, rfl, h1, h2, h3⟩; exact ⟨u, [v, t], rfl, h1, nums_two.2 ⟨v, t, rfl, h2, h3⟩⟩
theorem item_j0 (s : ByteArray) (rest : List ByteArray) (t : Int) (n : Nat) (hn : n ≤ 100) (ht0 : 0 ≤ t) (ht4 : t < 4) (hrd : rd [3, 2, 1, 1] t = n) (hlen : (rest.length = n)) :
    ∃ (K : Nat) (vs : List Int) (ok : Bool), (ok = true → Nums rest vs) ∧ (ok = false → ∀ vs, ¬ Nums rest vs) ∧ ∀ k, K ≤ k → spec_l5ScriptItem.j0 (k + 1) (s :: rest) [3, 2, 1, 1] t false =
      (if ok = true then (if t = 0 then (if 0 < (vs.length : Int) then (if 1 < (vs.length : Int) then (if 2 < (vs.length : Int) then (some (1, rd vs 0, rd vs 1, rd vs 2, true)) else (none)) else (none)) else (none)) else (if t = 1 then (if 0 < (vs.length : Int) then (if 1 < (vs.length : Int) then (some (2, 0, rd vs 0, rd vs 1, true)) else (none)) else (none)) else (if t = 2 then (if 0 < (vs.length : Int) then ((spec_l1Between.f (rd vs 0) 1 100).bind fun t146 => (some (3, 0, 0, rd vs 0, t146))) else (none)) else (if 0 < (vs.length : Int) then ((spec_l1Between.f (rd vs 0) 0 10000).bind fun t149 => (some (4, 0, 0, rd vs 0, t149))) else (none))))) else (some (0, 0, 0, 0, false))) := by
  subst hlen
  obtain ⟨K, vs, ok, hf, hy, hno⟩ := numbers_f rest hn
  refine ⟨K, vs, ok, hy, hno, fun k hk => ?_⟩
  have h1 : (1 : Int) ≤ ((s :: rest).length : Int) := by rw [List.length_cons]; omega
  have h4 : t < (([3, 2, 1, 1] : List Int).length : Int) := ht4
  rw [spec_l5ScriptItem.j0, if_neg (by decide), if_pos h1, if_pos ht0, if_pos h4, hrd, show (s :: rest).drop 1 = rest from rfl, hf k hk, Option.bind_some]
  cases ok <;> rfl
theorem item_enter (s : ByteArray) (rest : List ByteArray) (hl : rest.length ≤ 1000000) : ∀ k, 6 ≤ k → spec_l5ScriptItem.f k (s :: rest) =
    if placeOf s < 0 then spec_l5ScriptItem.j0 k (s :: rest) [3, 2, 1, 1] (placeOf s) true else spec_l5ScriptItem.j0 k (s :: rest) [3, 2, 1, 1] (placeOf s) (decide ((rest.length : Int) ≠ rd [3, 2, 1, 1] (placeOf s))) := by
  intro k hk
  have h1 : (0 : Int) < ((s :: rest).length : Int) := by rw [List.length_cons]; omega
  have hp := place_f s k hk
  have hr : rdOf ByteArray.empty (s :: rest) 0 = s := rfl
  unfold spec_l5ScriptItem.f
  rw [Option.bind_some, if_pos h1, hr]
  rw [show ([(⟨#[112, 111, 115, 116]⟩ : ByteArray), (⟨#[112, 117, 98, 108, 105, 115, 104]⟩ : ByteArray), (⟨#[116, 105, 99, 107]⟩ : ByteArray), (⟨#[114, 117, 110]⟩ : ByteArray)] : List ByteArray) = [kPost, kPublish, kTick, kRun] from rfl, hp, Option.bind_some]
  by_cases hneg : placeOf s < 0
  · rw [if_pos hneg, if_pos hneg]
  · have hp4 : placeOf s < 4 := by unfold placeOf; split <;> (try split) <;> (try split) <;> (try split) <;> omega
    have hrd : rd [3, 2, 1, 1] (placeOf s) = 3 ∨ rd [3, 2, 1, 1] (placeOf s) = 2 ∨ rd [3, 2, 1, 1] (placeOf s) = 1 := by
      have h0 : placeOf s = 0 ∨ placeOf s = 1 ∨ placeOf s = 2 ∨ placeOf s = 3 := by omega
      rcases h0 with h | h | h | h <;> rw [h]
      · exact .inl rfl
      · exact .inr (.inl rfl)
      · exact .inr (.inr rfl)
      · exact .inr (.inr rfl)
    have h4 : placeOf s < (([3, 2, 1, 1] : List Int).length : Int) := hp4
    rw [if_neg hneg, if_neg hneg, if_pos (by omega), if_pos h4]
    congr 1
    rw [wrap_in (by omega) (by omega), List.length_cons]
    by_cases e : (rest.length : Int) = rd [3, 2, 1, 1] (placeOf s)
    · rw [e, decide_eq_false (by simp)]
      rw [bne_eq_false_iff_eq]; omega
    · rw [decide_eq_true (by simpa using e)]
      rw [bne_iff_ne]; omega
theorem between_f (a lo hi : Int) : spec_l1Between.f a lo hi = some (decide (lo ≤ a ∧ a ≤ hi)) := by
  unfold spec_l1Between.f
  by_cases h : lo ≤ a
  · rw [if_pos h]; congr 1; simp [h]
  · rw [if_neg h]; congr 1; simp [h]
theorem item_f (s : ByteArray) (rest : List ByteArray) (hl : rest.length ≤ 1000000) : ∃ (K : Nat) (a b c d : Int) (ok : Bool), (∀ k, K ≤ k → spec_l5ScriptItem.f k (s :: rest) = some (a, b, c, d, ok)) ∧ (ok = true → ItemOf s rest [a, b, c, d]) ∧ (ok = false → ∀ cs, ¬ ItemOf s rest cs) := by
  have henter := item_enter s rest hl
  have hbad : ∀ k (t : Int), 1 ≤ k → spec_l5ScriptItem.j0 k (s :: rest) [3, 2, 1, 1] t true = some (0, 0, 0, 0, false) := by
    intro k t hk
    obtain ⟨k, rfl⟩ : ∃ q, k = q + 1 := ⟨k - 1, by omega⟩
    rw [spec_l5ScriptItem.j0, if_pos rfl]
  have wrong : ∀ (t : Int) (n : Nat), placeOf s = t → 0 ≤ t → rd [3, 2, 1, 1] t = n → rest.length ≠ n → (∀ cs, ¬ ItemOf s rest cs) → ∃ (K : Nat) (a b c d : Int) (ok : Bool), (∀ k, K ≤ k → spec_l5ScriptItem.f k (s :: rest) = some (a, b, c, d, ok)) ∧ (ok = true → ItemOf s rest [a, b, c, d]) ∧ (ok = false → ∀ cs, ¬ ItemOf s rest cs) := by
    intro t n ht h0 hr hne hno
    refine ⟨6, 0, 0, 0, 0, false, ?_, (fun h => Bool.noConfusion h), (fun _ => hno)⟩
    intro k hk
    rw [henter k hk, ht, if_neg (by omega), hr, decide_eq_true (by omega), hbad k t (by omega)]
  have right : ∀ (t : Int) (n : Nat), placeOf s = t → 0 ≤ t → rd [3, 2, 1, 1] t = n → rest.length = n → ∀ k, 6 ≤ k → spec_l5ScriptItem.f k (s :: rest) = spec_l5ScriptItem.j0 k (s :: rest) [3, 2, 1, 1] t false := by
    intro t n ht h0 hr he k hk
    rw [henter k hk, ht, if_neg (by omega), hr, decide_eq_false (by omega)]
  by_cases e0 : s = kPost
  · have hp : placeOf s = 0 := by unfold placeOf; rw [if_pos e0]
    subst e0
    by_cases h3 : rest.length = 3
    · obtain ⟨x, y, z, rfl⟩ := len_three h3
      obtain ⟨K, vs, ok, hy, hno, hj⟩ := item_j0 kPost [x, y, z] 0 3 (by omega) (by omega) (by omega) rfl rfl
      cases ok with
      | true =>
        obtain ⟨u, v, t, rfl, hu, hv, ht⟩ := nums_three.1 (hy rfl)
        refine ⟨K + 7, 1, u, v, t, true, ?_, (fun _ => .inl ⟨rfl, x, y, z, u, v, t, rfl, hu, hv, ht, rfl⟩), (fun h => Bool.noConfusion h)⟩
        intro k hk
        obtain ⟨k, rfl⟩ : ∃ q, k = q + 1 := ⟨k - 1, by omega⟩
        rw [right 0 3 hp (by omega) rfl rfl (k + 1) (by omega), hj k (by omega)]
        rfl
      | false =>
        refine ⟨K + 7, 0, 0, 0, 0, false, ?_, (fun h => Bool.noConfusion h), ?_⟩
        · intro k hk
          obtain ⟨k, rfl⟩ : ∃ q, k = q + 1 := ⟨k - 1, by omega⟩
          rw [right 0 3 hp (by omega) rfl rfl (k + 1) (by omega), hj k (by omega)]
          rfl
        · rintro _ cs (⟨_, h⟩ | ⟨e, _⟩ | ⟨e, _⟩ | ⟨e, _⟩)
          · obtain ⟨a, b, c, u, v, t, e, hu, hv, ht, _⟩ := h
            cases e
            exact hno rfl [u, v, t] (nums_three.2 ⟨u, v, t, rfl, hu, hv, ht⟩)
          · exact absurd e (by decide)
          · exact absurd e (by decide)
          · exact absurd e (by decide)
    · refine wrong 0 3 hp (by omega) rfl h3 ?_
      rintro cs (⟨_, h⟩ | ⟨e, _⟩ | ⟨e, _⟩ | ⟨e, _⟩)
      · obtain ⟨a, b, c, u, v, t, e, _⟩ := h
        exact h3 (by rw [e]; rfl)
      · exact absurd e (by decide)
      · exact absurd e (by decide)
      · exact absurd e (by decide)
  by_cases e1 : s = kPublish
  · have hp : placeOf s = 1 := by unfold placeOf; rw [if_neg e0, if_pos e1]
    subst e1
    by_cases h3 : rest.length = 2
    · obtain ⟨x, y, rfl⟩ := len_two h3
      obtain ⟨K, vs, ok, hy, hno, hj⟩ := item_j0 kPublish [x, y] 1 2 (by omega) (by omega) (by omega) rfl rfl
      cases ok with
      | true =>
        obtain ⟨u, v, rfl, hu, hv⟩ := nums_two.1 (hy rfl)
        refine ⟨K + 7, 2, 0, u, v, true, ?_, (fun _ => .inr (.inl ⟨rfl, x, y, u, v, rfl, hu, hv, rfl⟩)), (fun h => Bool.noConfusion h)⟩
        intro k hk
        obtain ⟨k, rfl⟩ : ∃ q, k = q + 1 := ⟨k - 1, by omega⟩
        rw [right 1 2 hp (by omega) rfl rfl (k + 1) (by omega), hj k (by omega)]
        rfl
      | false =>
        refine ⟨K + 7, 0, 0, 0, 0, false, ?_, (fun h => Bool.noConfusion h), ?_⟩
        · intro k hk
          obtain ⟨k, rfl⟩ : ∃ q, k = q + 1 := ⟨k - 1, by omega⟩
          rw [right 1 2 hp (by omega) rfl rfl (k + 1) (by omega), hj k (by omega)]
          rfl
        · rintro _ cs (⟨e, _⟩ | ⟨_, h⟩ | ⟨e, _⟩ | ⟨e, _⟩)
          · exact absurd e (by decide)
          · obtain ⟨a, b, u, v, e, hu, hv, _⟩ := h
            cases e
            exact hno rfl [u, v] (nums_two.2 ⟨u, v, rfl, hu, hv⟩)
          · exact absurd e (by decide)
          · exact absurd e (by decide)
    · refine wrong 1 2 hp (by omega) rfl h3 ?_
      rintro cs (⟨e, _⟩ | ⟨_, h⟩ | ⟨e, _⟩ | ⟨e, _⟩)
      · exact absurd e (by decide)
      · obtain ⟨a, b, u, v, e, _⟩ := h
        exact h3 (by rw [e]; rfl)
      · exact absurd e (by decide)
      · exact absurd e (by decide)
  by_cases e2 : s = kTick
  · have hp : placeOf s = 2 := by unfold placeOf; rw [if_neg e0, if_neg e1, if_pos e2]
    subst e2
    by_cases h3 : rest.length = 1
    · obtain ⟨x, rfl⟩ := len_one h3
      obtain ⟨K, vs, ok, hy, hno, hj⟩ := item_j0 kTick [x] 2 1 (by omega) (by omega) (by omega) rfl rfl
      cases ok with
      | true =>
        obtain ⟨u, rfl, hu⟩ := nums_one.1 (hy rfl)
        refine ⟨K + 7, 3, 0, 0, u, decide (1 ≤ u ∧ u ≤ 100), ?_, ?_, ?_⟩
        · intro k hk
          obtain ⟨k, rfl⟩ : ∃ q, k = q + 1 := ⟨k - 1, by omega⟩
          rw [right 2 1 hp (by omega) rfl rfl (k + 1) (by omega), hj k (by omega)]
          show (spec_l1Between.f u 1 100).bind _ = _
          rw [between_f]
          rfl
        · intro h
          have := of_decide_eq_true h
          exact .inr (.inr (.inl ⟨rfl, x, u, rfl, hu, this.1, this.2, rfl⟩))
        · rintro h cs (⟨e, _⟩ | ⟨e, _⟩ | ⟨_, h2⟩ | ⟨e, _⟩)
          · exact absurd e (by decide)
          · exact absurd e (by decide)
          · obtain ⟨a, v, e, hv, l1, l2, _⟩ := h2
            cases e
            obtain rfl := num_one hu hv
            exact of_decide_eq_false h ⟨l1, l2⟩
          · exact absurd e (by decide)
      | false =>
        refine ⟨K + 7, 0, 0, 0, 0, false, ?_, (fun h => Bool.noConfusion h), ?_⟩
        · intro k hk
          obtain ⟨k, rfl⟩ : ∃ q, k = q + 1 := ⟨k - 1, by omega⟩
          rw [right 2 1 hp (by omega) rfl rfl (k + 1) (by omega), hj k (by omega)]
          rfl
        · rintro _ cs (⟨e, _⟩ | ⟨e, _⟩ | ⟨_, h2⟩ | ⟨e, _⟩)
          · exact absurd e (by decide)
          · exact absurd e (by decide)
          · obtain ⟨a, v, e, hv, _⟩ := h2
            cases e
            exact hno rfl [v] (nums_one.2 ⟨v, rfl, hv⟩)
          · exact absurd e (by decide)
    · refine wrong 2 1 hp (by omega) rfl h3 ?_
      rintro cs (⟨e, _⟩ | ⟨e, _⟩ | ⟨_, h⟩ | ⟨e, _⟩)
      · exact absurd e (by decide)
      · exact absurd e (by decide)
      · obtain ⟨a, u, e, _⟩ := h
        exact h3 (by rw [e]; rfl)
      · exact absurd e (by decide)
  by_cases e3 : s = kRun
  · have hp : placeOf s = 3 := by unfold placeOf; rw [if_neg e0, if_neg e1, if_neg e2, if_pos e3]
    subst e3
    by_cases h3 : rest.length = 1
    · obtain ⟨x, rfl⟩ := len_one h3
      obtain ⟨K, vs, ok, hy, hno, hj⟩ := item_j0 kRun [x] 3 1 (by omega) (by omega) (by omega) rfl rfl
      cases ok with
      | true =>
        obtain ⟨u, rfl, hu⟩ := nums_one.1 (hy rfl)
        refine ⟨K + 7, 4, 0, 0, u, decide (0 ≤ u ∧ u ≤ 10000), ?_, ?_, ?_⟩
        · intro k hk
          obtain ⟨k, rfl⟩ : ∃ q, k = q + 1 := ⟨k - 1, by omega⟩
          rw [right 3 1 hp (by omega) rfl rfl (k + 1) (by omega), hj k (by omega)]
          show (spec_l1Between.f u 0 10000).bind _ = _
          rw [between_f]
          rfl
        · intro h
          have := of_decide_eq_true h
          exact .inr (.inr (.inr ⟨rfl, x, u, rfl, hu, this.1, this.2, rfl⟩))
        · rintro h cs (⟨e, _⟩ | ⟨e, _⟩ | ⟨e, _⟩ | ⟨_, h2⟩)
          · exact absurd e (by decide)
          · exact absurd e (by decide)
          · exact absurd e (by decide)
          · obtain ⟨a, v, e, hv, l1, l2, _⟩ := h2
            cases e
            obtain rfl := num_one hu hv
            exact of_decide_eq_false h ⟨l1, l2⟩
      | false =>
        refine ⟨K + 7, 0, 0, 0, 0, false, ?_, (fun h => Bool.noConfusion h), ?_⟩
        · intro k hk
          obtain ⟨k, rfl⟩ : ∃ q, k = q + 1 := ⟨k - 1, by omega⟩
          rw [right 3 1 hp (by omega) rfl rfl (k + 1) (by omega), hj k (by omega)]
          rfl
        · rintro _ cs (⟨e, _⟩ | ⟨e, _⟩ | ⟨e, _⟩ | ⟨_, h2⟩)
          · exact absurd e (by decide)
          · exact absurd e (by decide)
          · exact absurd e (by decide)
          · obtain ⟨a, v, e, hv, _⟩ := h2
            cases e
            exact hno rfl [v] (nums_one.2 ⟨v, rfl, hv⟩)
    · refine wrong 3 1 hp (by omega) rfl h3 ?_
      rintro cs (⟨e, _⟩ | ⟨e, _⟩ | ⟨e, _⟩ | ⟨_, h⟩)
      · exact absurd e (by decide)
      · exact absurd e (by decide)
      · exact absurd e (by decide)
      · obtain ⟨a, u, e, _⟩ := h
        exact h3 (by rw [e]; rfl)
  · have hp : placeOf s = -1 := by unfold placeOf; rw [if_neg e0, if_neg e1, if_neg e2, if_neg e3]
    refine ⟨6, 0, 0, 0, 0, false, ?_, (fun h => Bool.noConfusion h), ?_⟩
    · intro k hk
      rw [henter k hk, hp, if_pos (by omega), hbad k _ (by omega)]
    · rintro _ cs (⟨e, _⟩ | ⟨e, _⟩ | ⟨e, _⟩ | ⟨e, _⟩)
      · exact e0 e
      · exact e1 e
      · exact e2 e
      · exact e3 e
end Go.Proofs.YtbdpnimfkogajaaDoor.Txt
