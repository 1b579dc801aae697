/- Proved here: plain laws of decimal numerals: which strings NumOK takes, and of which numbers. No program in sight. -/
import Derived.Test.YtbdpnimfkogajaaDoorKN1
import Derived.Lib.ItoaMem
import Derived.Lib.ParseIntBCases
namespace Go.Proofs.YtbdpnimfkogajaaDoor.Txt
open Go.RowKit Go.Proofs.YtbdpnimfkogajaaDoorW.PrintWords Go.Proofs.YtbdpnimfkogajaaDoorW.PrintLast Go.Proofs.YtbdpnimfkogajaaDoorW.PrintMore Go.Proofs.YtbdpnimfkogajaaDoor.PFnExactParseScript
set_option linter.unusedVariables false
def IsDig (c : UInt8) : Prop := 48 ≤ c.toNat ∧ c.toNat ≤ 57
def dstep (acc : Nat) (c : UInt8) : Nat := acc * 10 + (c.toNat - 48)
def valA (acc : Nat) (l : List UInt8) : Nat := l.foldl dstep acc
theorem valA_nil (acc : Nat) : valA acc [] = acc := by unfold valA; exact List.foldl_nil
theorem valA_cons (acc : Nat) (c : UInt8) (r : List UInt8) : valA acc (c :: r) = valA (dstep acc c) r := by unfold valA; exact List.foldl_cons ..
theorem dstep_eq (acc : Nat) (c : UInt8) : dstep acc c = acc * 10 + (c.toNat - 48) := rfl
theorem valA_snoc (l : List UInt8) (acc : Nat) (c : UInt8) : valA acc (l ++ [c]) = valA acc l * 10 + (c.toNat - 48) := by
  unfold valA; rw [List.foldl_append]; rfl
theorem valA_ge (l : List UInt8) : ∀ (acc : Nat), acc ≤ valA acc l := by
  induction l with
  | nil => intro acc; exact Nat.le_refl _
  | cons b l ih =>
    intro acc
    have h1 := ih (dstep acc b)
    rw [valA_cons]
    have h2 := dstep_eq acc b
    generalize dstep acc b = x at *
    generalize valA x l = y at *
    omega
theorem dig_of {c : UInt8} (h : IsDig c) : UInt8.ofNat (48 + (c.toNat - 48)) = c := by
  obtain ⟨h1, h2⟩ := h
  rw [show 48 + (c.toNat - 48) = c.toNat by omega]
  simp
theorem dec_val : ∀ (n : Nat) (l : List UInt8), l.length = n → l ≠ [] → (∀ c ∈ l, IsDig c) → (∀ c r, l = c :: r → c.toNat = 48 → r = []) → Lib.decDigits (valA 0 l) = l := by
  intro n
  induction n with
  | zero => intro l hl h0; exact absurd (List.length_eq_zero_iff.1 hl) h0
  | succ n ih =>
    intro l hl h0 hd hz
    rcases List.eq_nil_or_concat l with h | ⟨l', c, h⟩
    · exact absurd h h0
    rw [List.concat_eq_append] at h
    subst h
    have hc : IsDig c := hd c (by simp)
    rw [valA_snoc]
    by_cases hl' : l' = []
    · subst hl'
      rw [valA_nil, Nat.zero_mul, Nat.zero_add, List.nil_append, Lib.decDigits_one (by have := hc.2; omega), dig_of hc]
    · have hlead : ∀ b r, l' = b :: r → b.toNat = 48 → r = [] := fun b r e eb => by
        have := hz b (r ++ [c]) (by rw [e]; rfl) eb
        simp at this
      have ihl := ih l' (by simp at hl; exact hl) hl' (fun b hb => hd b (by simp [hb])) hlead
      have hpos : 1 ≤ valA 0 l' := by
        cases l' with
        | nil => exact absurd rfl hl'
        | cons b r =>
          have hb : IsDig b := hd b (by simp)
          have hb0 : b.toNat ≠ 48 := fun e => by
            have := hz b (r ++ [c]) (by rfl) e
            simp at this
          have h1 := valA_ge r (dstep 0 b)
          have h2 := dstep_eq 0 b
          have h3 := hb.1
          rw [valA_cons]
          generalize dstep 0 b = x at *
          generalize valA x r = y at *
          omega
      rw [Lib.decDigits, dif_neg (by omega)]
      have hcd := hc.2
      rw [show (valA 0 l' * 10 + (c.toNat - 48)) / 10 = valA 0 l' by have := hc.2; have := hc.1; omega, show (valA 0 l' * 10 + (c.toNat - 48)) % 10 = c.toNat - 48 by have := hc.2; have := hc.1; omega, ihl, dig_of hc]
theorem dec_spec : ∀ (u : Nat), (∀ c ∈ Lib.decDigits u, IsDig c) ∧ valA 0 (Lib.decDigits u) = u ∧ (∀ c r, Lib.decDigits u = c :: r → c.toNat = 48 → u = 0) ∧ Lib.decDigits u ≠ [] := by
  intro u
  induction u using Nat.strongRecOn with
  | ind u ih =>
    by_cases h : u < 10
    · rw [Lib.decDigits_one h]
      have e : (UInt8.ofNat (48 + u)).toNat = 48 + u := by simp; omega
      refine ⟨?_, ?_, ?_, by simp⟩
      · intro c hc
        obtain rfl := List.mem_singleton.1 hc
        unfold IsDig
        omega
      · rw [valA_cons, valA_nil, dstep_eq]; omega
      · intro c r hcr e2
        cases hcr
        omega
    · rw [Lib.decDigits, dif_neg h]
      obtain ⟨h1, h2, h3, h4⟩ := ih (u / 10) (by omega)
      have e : (UInt8.ofNat (48 + u % 10)).toNat = 48 + u % 10 := by simp; omega
      refine ⟨?_, ?_, ?_, by simp⟩
      · intro c hc
        rcases List.mem_append.1 hc with hc | hc
        · exact h1 c hc
        · obtain rfl := List.mem_singleton.1 hc
          unfold IsDig
          omega
      · rw [valA_snoc, h2]; omega
      · intro c r hcr e2
        cases hd : Lib.decDigits (u / 10) with
        | nil => exact absurd hd h4
        | cons b q =>
          rw [hd] at hcr
          cases hcr
          have := h3 c q hd e2
          omega
theorem dec_len {u : Nat} : ∀ {k : Nat}, 1 ≤ k → u < 10 ^ k → (Lib.decDigits u).length ≤ k := by
  intro k
  induction k generalizing u with
  | zero => intro h; omega
  | succ k ih =>
    intro _ hu
    by_cases h : u < 10
    · rw [Lib.decDigits_one h]; simp
    · rw [Lib.decDigits, dif_neg h, List.length_append]
      have hk : 1 ≤ k := by
        rcases Nat.eq_zero_or_pos k with h0 | h0
        · subst h0; simp at hu; omega
        · exact h0
      have := ih hk (u := u / 10) (by rw [Nat.pow_succ] at hu; omega)
      simp; omega
theorem mag_digits (l : List UInt8) : ∀ (acc : Nat), (∀ c ∈ l, IsDig c) → valA acc l ≤ 18446744073709551615 → Lib.parseUintM 18446744073709551615 acc l = .ok (valA acc l) := by
  induction l with
  | nil => intro acc _ _; rfl
  | cons c r ih =>
    intro acc hd hv
    have hc := hd c (by simp)
    have hge := valA_ge r (dstep acc c)
    rw [valA_cons] at hv ⊢
    have h2 := dstep_eq acc c
    have ih2 := ih (dstep acc c) (fun b hb => hd b (by simp [hb])) hv
    rw [Lib.parseUintM, if_pos (show 48 ≤ c.toNat ∧ c.toNat ≤ 57 from hc), ← h2]
    generalize dstep acc c = x at *
    generalize valA x r = y at *
    rw [if_neg (by omega), if_neg (by omega)]
    exact ih2
theorem mag_ok (l : List UInt8) : ∀ (acc u : Nat), Lib.parseUintM 18446744073709551615 acc l = .ok u → u = valA acc l := by
  induction l with
  | nil => intro acc u h; cases h; rfl
  | cons c r ih =>
    intro acc u h
    rw [Lib.parseUintM] at h
    split at h
    · split at h
      · cases h
      · split at h
        · cases h
        · exact ih _ u h
    · cases h
theorem digs_list (s : ByteArray) : (digs s).data.toList = Lib.trimPrefix s.data.toList [45] := by unfold digs; simp
theorem digs_get {s : ByteArray} {i : Nat} (h : i < (digs s).size) {c : UInt8} (hc : (Lib.trimPrefix s.data.toList [45])[i]? = some c) : (digs s)[i] = c := by
  have h2 : (digs s).data.toList[i]? = some c := by rw [digs_list]; exact hc
  have h3 : i < (digs s).data.size := h
  rw [Array.getElem?_toList, Array.getElem?_eq_getElem h3] at h2
  exact Option.some.inj h2
theorem digs_size (s : ByteArray) : (digs s).size = (Lib.trimPrefix s.data.toList [45]).length := by
  rw [← digs_list]; exact Array.length_toList.symm
theorem trim_minus (r : List UInt8) : Lib.trimPrefix (45 :: r) [45] = r := by unfold Lib.trimPrefix Lib.hasPrefix; simp
theorem trim_plain {l : List UInt8} (h : ∀ r, l ≠ 45 :: r) : Lib.trimPrefix l [45] = l := by
  unfold Lib.trimPrefix Lib.hasPrefix
  cases l with
  | nil => simp
  | cons c r =>
    have : ¬ c = 45 := fun e => h r (by rw [e])
    simp
    intro e
    exact absurd e.symm this
theorem num_facts {s : ByteArray} {v : Int} (h : NumOK s v) : ∃ D, D ≠ [] ∧ D.length ≤ 19 ∧ (∀ c ∈ D, IsDig c) ∧ (∀ c r, D = c :: r → c.toNat = 48 → s.data.toList = [48]) ∧ (s.data.toList = 45 :: D ∨ (s.data.toList = D ∧ ∀ r, D ≠ 45 :: r)) ∧ Lib.parseIntB 64 s.data.toList = .ok v := by
  have hl := digs_size s
  refine ⟨Lib.trimPrefix s.data.toList [45], ?_, ?_, ?_, ?_, ?_, h.val⟩
  · intro e
    rw [e] at hl
    have := h.lo
    rw [List.length_nil] at hl
    omega
  · have := h.hi; omega
  · intro c hc
    obtain ⟨i, hi, rfl⟩ := List.getElem_of_mem hc
    have hi2 : i < (digs s).size := by omega
    have := h.dig i hi2
    rw [digs_get hi2 (List.getElem?_eq_getElem hi)] at this
    exact this
  · intro c r e hc
    have h0 : 0 < (digs s).size := by rw [hl, e]; simp
    have := h.lead h0 (by rw [digs_get h0 (c := c) (by rw [e]; rfl)]; exact hc)
    rw [ByteArray.toList_eq] at this
    exact this
  · by_cases hm : ∃ r, s.data.toList = 45 :: r
    · obtain ⟨r, e⟩ := hm
      left
      rw [e, trim_minus]
    · right
      have hne : ∀ r, s.data.toList ≠ 45 :: r := fun r e => hm ⟨r, e⟩
      rw [trim_plain hne]
      exact ⟨rfl, hne⟩
theorem magB {l : List UInt8} (h : l ≠ []) : Lib.parseUintB 64 l = Lib.parseUintM 18446744073709551615 0 l := by
  unfold Lib.parseUintB
  rw [if_neg h]
theorem num_itoa {s : ByteArray} {v : Int} (h : NumOK s v) : s.data.toList = Lib.itoa v ∧ -9223372036854775808 ≤ v ∧ v < 9223372036854775808 := by
  obtain ⟨D, h0, h19, hd, hz, hs, hv⟩ := num_facts h
  rcases hs with hs | ⟨hs, hne⟩
  · rw [hs, Lib.parseIntB_minus, magB h0] at hv
    rcases hm : Lib.parseUintM 18446744073709551615 0 D with u | _ | _
    rotate_left
    · rw [hm] at hv; cases hv
    · rw [hm] at hv; cases hv
    · skip
      rw [hm] at hv
      replace hv : (if 2 ^ (64 - 1) < u then Lib.NumEnd.range else Lib.NumEnd.ok (-(u : Int))) = Lib.NumEnd.ok v := hv
      split at hv
      · cases hv
      · rename_i hle
        cases hv
        have hu := mag_ok D 0 u hm
        have hlead : ∀ c r, D = c :: r → c.toNat = 48 → r = [] := fun c r e hc => by
          have := hz c r e hc
          rw [hs] at this
          exact absurd (List.cons.inj this).1 (by decide)
        have hdec := dec_val D.length D rfl h0 hd hlead
        have hpos : 1 ≤ u := by
          rcases Nat.eq_zero_or_pos u with e | e
          · rw [← hu, e, Lib.decDigits_one (by omega)] at hdec
            have := hz _ _ hdec.symm (by decide)
            rw [hs] at this
            exact absurd (List.cons.inj this).1 (by decide)
          · exact e
        rw [hs, Lib.itoa_neg u hpos, hu, hdec]
        refine ⟨rfl, ?_, ?_⟩ <;> omega
  · cases D with
    | nil => exact absurd rfl h0
    | cons c r =>
      have hc := hd c (by simp)
      rw [hs, Lib.parseIntB_plain 64 c r (by have := hc.1; omega) (by have := hc.1; omega), magB h0] at hv
      rcases hm : Lib.parseUintM 18446744073709551615 0 (c :: r) with u | _ | _
      rotate_left
      · rw [hm] at hv; cases hv
      · rw [hm] at hv; cases hv
      · skip
        rw [hm] at hv
        replace hv : (if 2 ^ (64 - 1) ≤ u then Lib.NumEnd.range else Lib.NumEnd.ok (u : Int)) = Lib.NumEnd.ok v := hv
        split at hv
        · cases hv
        · rename_i hle
          cases hv
          have hu := mag_ok (c :: r) 0 u hm
          have hlead : ∀ b q, c :: r = b :: q → b.toNat = 48 → q = [] := fun b q e hb => by
            have := hz b q e hb
            rw [hs, e] at this
            simp at this
            exact this.2
          have hdec := dec_val (c :: r).length (c :: r) rfl h0 hd hlead
          rw [hs, Lib.itoa_nonneg, hu, hdec]
          refine ⟨rfl, ?_, ?_⟩ <;> omega
theorem itoa_num {s : ByteArray} {v : Int} (hs : s.data.toList = Lib.itoa v) (h1 : -9223372036854775808 ≤ v) (h2 : v < 9223372036854775808) : NumOK s v := by
  obtain ⟨u, hu⟩ : ∃ u : Nat, u = v.natAbs := ⟨_, rfl⟩
  obtain ⟨hd, hval, hz, hne⟩ := dec_spec u
  have hlen := dec_len (u := u) (k := 19) (by omega) (by omega)
  have hmag : Lib.parseUintB 64 (Lib.decDigits u) = .ok u := by
    rw [magB hne, mag_digits _ 0 hd (by rw [hval]; omega), hval]
  have hl := digs_size s
  by_cases hneg : v < 0
  · have hi : Lib.itoa v = 45 :: Lib.decDigits u := by
      rw [show v = -(u : Int) by omega, Lib.itoa_neg u (by omega)]
    rw [hi] at hs
    rw [hs, trim_minus] at hl
    refine ⟨?_, by omega, ?_, ?_, ?_⟩
    · have := List.length_pos_iff.2 hne; omega
    · intro h0 e
      cases hc : Lib.decDigits u with
      | nil => exact absurd hc hne
      | cons c r =>
        rw [digs_get h0 (c := c) (by rw [hs, trim_minus, hc]; rfl)] at e
        have := hz c r hc e
        omega
    · intro i h
      have hi : i < (Lib.decDigits u).length := by omega
      rw [digs_get h (c := (Lib.decDigits u)[i]) (by rw [hs, trim_minus]; exact List.getElem?_eq_getElem hi)]
      exact hd _ (List.getElem_mem hi)
    · rw [hs, Lib.parseIntB_minus, hmag]
      show (if 2 ^ (64 - 1) < u then Lib.NumEnd.range else Lib.NumEnd.ok (-(u : Int))) = _
      rw [if_neg (by omega), show v = -(u : Int) by omega]
  · have hi : Lib.itoa v = Lib.decDigits u := by
      rw [show v = (u : Int) by omega, Lib.itoa_nonneg]
    rw [hi] at hs
    have hpl : ∀ r, Lib.decDigits u ≠ 45 :: r := fun r e => by
      have := hd 45 (by rw [e]; simp)
      exact absurd this.1 (by decide)
    rw [hs, trim_plain hpl] at hl
    refine ⟨?_, by omega, ?_, ?_, ?_⟩
    · have := List.length_pos_iff.2 hne; omega
    · intro h0 e
      cases hc : Lib.decDigits u with
      | nil => exact absurd hc hne
      | cons c r =>
        rw [digs_get h0 (c := c) (by rw [hs, trim_plain hpl, hc]; rfl)] at e
        have hu0 := hz c r hc e
        rw [ByteArray.toList_eq, hs, hu0, Lib.decDigits_one (by omega)]
        rfl
    · intro i h
      have hi : i < (Lib.decDigits u).length := by omega
      rw [digs_get h (c := (Lib.decDigits u)[i]) (by rw [hs, trim_plain hpl]; exact List.getElem?_eq_getElem hi)]
      exact hd _ (List.getElem_mem hi)
    · rw [hs]
      cases hc : Lib.decDigits u with
      | nil => exact absurd hc hne
      | cons c r =>
        have hcd := hd c (by rw [hc]; simp)
        rw [Lib.parseIntB_plain 64 c r (by have := hcd.1; omega) (by have := hcd.1; omega), ← hc, hmag]
        show (if 2 ^ (64 - 1) ≤ u then Lib.NumEnd.range else Lib.NumEnd.ok (u : Int)) = _
        rw [if_neg (by omega), show v = (u : Int) by omega]
end Go.Proofs.YtbdpnimfkogajaaDoor.Txt
