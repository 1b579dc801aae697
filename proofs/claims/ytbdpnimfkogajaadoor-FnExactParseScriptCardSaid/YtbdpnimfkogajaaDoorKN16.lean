/- Proved here: plain laws: what the reference's l5Dec and l5Number give. -/
import Derived.Test.YtbdpnimfkogajaaDoorKN15
import Derived.Test.YtbdpnimfkogajaaDoorKX2
namespace Go.Proofs.YtbdpnimfkogajaaDoor.Txt
open Go.RowKit Go.Proofs.YtbdpnimfkogajaaDoorW.PrintWords Go.Proofs.YtbdpnimfkogajaaDoorW.PrintLast Go.Proofs.YtbdpnimfkogajaaDoorW.PrintMore Go.Proofs.YtbdpnimfkogajaaDoor.PFnExactParseScript
set_option linter.unusedVariables false
theorem wrap_in {n : Int} (h1 : -9223372036854775808 ≤ n) (h2 : n < 9223372036854775808) : wrap64 n = n := by unfold wrap64; omega
theorem wrap_lo (n : Int) : -9223372036854775808 ≤ wrap64 n ∧ wrap64 n < 9223372036854775808 := by unfold wrap64; omega
def ten : ByteArray := ⟨#[48, 49, 50, 51, 52, 53, 54, 55, 56, 57]⟩
theorem ten_at : ∀ i : Fin 10, ten.extract i.val (i.val + 1) = ⟨#[UInt8.ofNat (48 + i.val)]⟩ := by decide +kernel
theorem dec_nat : ∀ (j k u : Nat), u < 10 ^ j → u < 9223372036854775808 → 1 ≤ j → j ≤ k → spec_l5Dec.f k (u : Int) = some ⟨(Lib.decDigits u).toArray⟩ := by
  intro j
  induction j with
  | zero => intro k u _ _ h; omega
  | succ j ih =>
    intro k u hu h63 _ hk
    obtain ⟨k, rfl⟩ : ∃ q, k = q + 1 := ⟨k - 1, by omega⟩
    rw [spec_l5Dec.f, if_neg (by omega), if_neg (by omega)]
    by_cases h : u < 10
    · rw [if_pos (by omega), wrap_in (by omega) (by omega), if_pos (by omega), if_pos (by omega), if_pos (by omega), Lib.decDigits_one h]
      have := ten_at ⟨u, h⟩
      rw [show ((u : Int) + 1).toNat = u + 1 by omega, show ((u : Int)).toNat = u by omega]
      exact congrArg some this
    · have hj : 1 ≤ j := by
        rcases Nat.eq_zero_or_pos j with h0 | h0
        · subst h0; simp at hu; omega
        · exact h0
      rw [if_neg (by omega), show Int.tdiv (u : Int) 10 = ((u / 10 : Nat) : Int) from rfl, show Int.tmod (u : Int) 10 = ((u % 10 : Nat) : Int) from rfl, wrap_in (by omega) (by omega), ih k (u / 10) (by rw [Nat.pow_succ] at hu; omega) (by omega) hj (by omega), Option.bind_some]
      have ht := ten_at ⟨u % 10, by omega⟩
      have hlen := dec_len (u := u / 10) (k := 19) (by omega) (by omega)
      rw [wrap_in (by omega) (by omega), show (((u % 10 : Nat) : Int) + 1).toNat = u % 10 + 1 by omega, show (((u % 10 : Nat) : Int)).toNat = u % 10 by omega]
      have ht2 : (⟨#[48, 49, 50, 51, 52, 53, 54, 55, 56, 57]⟩ : ByteArray).extract (u % 10) (u % 10 + 1) = ⟨#[UInt8.ofNat (48 + u % 10)]⟩ := ht
      rw [ht2, if_pos (by omega), if_pos (by omega), if_pos (by omega)]
      have hs1 : (⟨(Lib.decDigits (u / 10)).toArray⟩ : ByteArray).size = (Lib.decDigits (u / 10)).length := by show (Lib.decDigits (u / 10)).toArray.size = _; simp
      rw [if_pos (by rw [hs1]; show (Lib.decDigits (u / 10)).length + 1 ≤ _; omega)]
      rw [Lib.decDigits.eq_def u, dif_neg h]
      first | (congr 1; done) | (congr 1; apply ByteArray.ext; simp)
theorem dec_all {n : Int} (h1 : -9223372036854775808 ≤ n) (h2 : n < 9223372036854775808) : ∀ k, 21 ≤ k → spec_l5Dec.f k n = some ⟨(Lib.itoa n).toArray⟩ := by
  intro k hk
  obtain ⟨k, rfl⟩ : ∃ q, k = q + 1 := ⟨k - 1, by omega⟩
  by_cases hneg : n < 0
  · obtain ⟨u, rfl⟩ : ∃ u : Nat, n = -(u : Int) := ⟨n.natAbs, by omega⟩
    rw [spec_l5Dec.f, Lib.itoa_neg u (by omega)]
    by_cases hm : -(u : Int) = -9223372036854775808
    · rw [if_pos hm]
      obtain rfl : u = 9223372036854775808 := by omega
      have hv : valA 0 [57, 50, 50, 51, 51, 55, 50, 48, 51, 54, 56, 53, 52, 55, 55, 53, 56, 48, 56] = 9223372036854775808 := by decide +kernel
      have := dec_val 19 [57, 50, 50, 51, 51, 55, 50, 48, 51, 54, 56, 53, 52, 55, 55, 53, 56, 48, 56] rfl (by simp) (by unfold IsDig; decide) (by intro c r e; cases e; decide)
      rw [hv] at this
      rw [this]
    · rw [if_neg hm, if_pos hneg, wrap_in (by omega) (by omega), show -(-(u : Int)) = (u : Int) by omega, dec_nat 19 k u (by omega) (by omega) (by omega) (by omega), Option.bind_some]
      have hlen := dec_len (u := u) (k := 19) (by omega) (by omega)
      have hs1 : (⟨(Lib.decDigits u).toArray⟩ : ByteArray).size = (Lib.decDigits u).length := by show (Lib.decDigits u).toArray.size = _; simp
      rw [if_pos (by rw [hs1]; omega)]
      first | (congr 1; done) | (congr 1; apply ByteArray.ext; simp)
  · obtain ⟨u, rfl⟩ : ∃ u : Nat, n = (u : Int) := ⟨n.toNat, by omega⟩
    rw [Lib.itoa_nonneg, dec_nat 19 (k + 1) u (by omega) (by omega) (by omega) (by omega)]
def lp (neg : Bool) (n : Int) : List UInt8 → Option Int
  | [] => some n
  | c :: r => if 48 ≤ c.toNat ∧ c.toNat ≤ 57 then lp neg (wrap64 (wrap64 (n * 10) + (if neg then -((c.toNat : Int) - 48) else (c.toNat : Int) - 48))) r else none
theorem lp_range (neg : Bool) : ∀ (l : List UInt8) (n m : Int), -9223372036854775808 ≤ n → n < 9223372036854775808 → lp neg n l = some m → -9223372036854775808 ≤ m ∧ m < 9223372036854775808
  | [], n, m, h1, h2, h => by
    simp only [lp, Option.some.injEq] at h
    omega
  | c :: r, n, m, h1, h2, h => by
    rw [lp] at h
    split at h
    · exact lp_range neg r _ m (wrap_lo _).1 (wrap_lo _).2 h
    · cases h
def lpEnd (s : ByteArray) : Option Int → Int × Bool
  | some m => (m, decide (Lib.itoa m = s.data.toList))
  | none => (0, false)
theorem bt_drop {s : ByteArray} {i : Nat} {c : UInt8} {r : List UInt8} (h : s.data.toList.drop i = c :: r) : i < s.size ∧ bt s (i : Int) = (c.toNat : Int) ∧ s.data.toList.drop (i + 1) = r := by
  have hlen := congrArg List.length h
  have hl : s.data.toList.length = s.size := Array.length_toList
  rw [List.length_drop, List.length_cons, hl] at hlen
  have hi : i < s.size := by omega
  refine ⟨hi, ?_, ?_⟩
  · have h0 : s.data.toList[i]? = some c := by
      have := congrArg List.head? h
      rw [List.head?_drop] at this
      exact this
    rw [Array.getElem?_toList, Array.getElem?_eq_getElem (show i < s.data.size from hi)] at h0
    unfold bt
    rw [dif_pos (show ((i : Int)).toNat < s.size by omega)]
    have e := Option.some.inj h0
    rw [← e]
    rfl
  · rw [← List.drop_drop, h]; rfl
theorem num_loop {s : ByteArray} (hsz : s.size ≤ 20) : ∀ (rem : List UInt8) (i : Nat) (n : Int), s.data.toList.drop i = rem → i ≤ s.size → (i = 0 → bt s 0 ≠ 45) → -9223372036854775808 ≤ n → n < 9223372036854775808 →
    ∃ K, ∀ k, K ≤ k → spec_l5Number.l0 k s n (i : Int) = some (lpEnd s (lp (decide (bt s 0 = 45)) n rem)) := by
  intro rem
  induction rem with
  | nil =>
    intro i n hd hi h0 h1 h2
    have hlen := congrArg List.length hd
    have hl : s.data.toList.length = s.size := Array.length_toList
    rw [List.length_drop, hl, List.length_nil] at hlen
    refine ⟨22, fun k hk => ?_⟩
    obtain ⟨k, rfl⟩ : ∃ q, k = q + 1 := ⟨k - 1, by omega⟩
    rw [spec_l5Number.l0, if_neg (by omega), dec_all h1 h2 k (by omega), Option.bind_some]
    simp only [lp, lpEnd, ByteArray.toList_eq]
    rw [Bool.beq_eq_decide_eq]
  | cons c r ih =>
    intro i n hd hi h0 h1 h2
    obtain ⟨hlt, hb, hd'⟩ := bt_drop hd
    obtain ⟨m, hm⟩ : ∃ m, m = wrap64 (wrap64 (n * 10) + (if (decide (bt s 0 = 45)) = true then -((c.toNat : Int) - 48) else (c.toNat : Int) - 48)) := ⟨_, rfl⟩
    obtain ⟨K, hK⟩ := ih (i + 1) m hd' (by omega) (by omega) (by rw [hm]; exact (wrap_lo _).1) (by rw [hm]; exact (wrap_lo _).2)
    have hi0 : (0 : Int) ≤ (i : Int) := Int.natCast_nonneg i
    have hi1 : (i : Int) < (s.size : Int) := Int.ofNat_lt.2 hlt
    have hs0 : (0 : Int) < (s.size : Int) := Int.lt_of_le_of_lt hi0 hi1
    refine ⟨K + 3, fun k hk => ?_⟩
    obtain ⟨k, rfl⟩ : ∃ q, k = q + 3 := ⟨k - 3, by omega⟩
    have hj2 : spec_l5Number.l0 (k + 3) s n (i : Int) = spec_l5Number.j2 (k + 2) s n (i : Int) false := by
      rw [spec_l5Number.l0, if_pos hi1, if_pos hi0]
      by_cases h45 : bt s (i : Int) = 45
      · rw [if_pos h45]
        have : ((i : Int) == 0) = false := by
          rw [beq_eq_false_iff_ne]
          intro e
          have e0 : i = 0 := by omega
          exact h0 e0 (by rw [← h45, e0]; rfl)
        rw [this]
      · rw [if_neg h45]
    rw [hj2, spec_l5Number.j2, if_neg (by decide), if_pos hi0, if_pos hi1, hb, lp]
    by_cases hlo : (c.toNat : Int) < 48
    · rw [if_pos hlo, if_neg (by omega), spec_l5Number.j3, if_pos rfl]; rfl
    rw [if_neg hlo]
    by_cases hhi : (c.toNat : Int) > 57
    · rw [decide_eq_true hhi, if_neg (by omega), spec_l5Number.j3, if_pos rfl]; rfl
    rw [decide_eq_false hhi, if_pos (show 48 ≤ c.toNat ∧ c.toNat ≤ 57 by omega), spec_l5Number.j3, if_neg (by decide), if_pos hs0, hb]
    have hmod : ((c.toNat : Int) - 48) % 256 = (c.toNat : Int) - 48 := by omega
    rw [hmod]
    have hw : wrap64 ((i : Int) + 1) = ((i + 1 : Nat) : Int) := by rw [wrap_in (by omega) (by omega)]; rfl
    rw [hw]
    by_cases hneg : bt s 0 = 45
    · rw [if_pos hneg, if_pos hi0, if_pos hi1]
      rw [hneg, decide_eq_true rfl, if_pos rfl] at hm
      have hK' := hK k (by omega)
      rw [hm] at hK'
      rw [show wrap64 (n * 10) - ((c.toNat : Int) - 48) = wrap64 (n * 10) + -((c.toNat : Int) - 48) by omega, hK', hneg]
      simp
    · rw [if_neg hneg, if_pos hi0, if_pos hi1]
      rw [decide_eq_false hneg, if_neg (by decide)] at hm
      have hK' := hK k (by omega)
      rw [hm] at hK'
      rw [hK', decide_eq_false hneg]
      simp
theorem wrap_step (a d : Int) : wrap64 (wrap64 (wrap64 a * 10) + d) = wrap64 (a * 10 + d) := by unfold wrap64; omega
theorem dstep_int {acc : Nat} {c : UInt8} (h : IsDig c) : ((dstep acc c : Nat) : Int) = (acc : Int) * 10 + ((c.toNat : Int) - 48) := by
  rw [dstep_eq]; have := h.1; omega
theorem lp_pos : ∀ (l : List UInt8) (acc : Nat), (∀ c ∈ l, IsDig c) → lp false (wrap64 (acc : Int)) l = some (wrap64 ((valA acc l : Nat) : Int)) := by
  intro l
  induction l with
  | nil => intro acc _; rw [valA_nil]; rfl
  | cons c r ih =>
    intro acc hd
    have hc := hd c (by simp)
    rw [lp, if_pos (show 48 ≤ c.toNat ∧ c.toNat ≤ 57 from hc), if_neg (by decide), wrap_step, ← dstep_int hc, valA_cons]
    exact ih _ (fun b hb => hd b (by simp [hb]))
theorem lp_neg : ∀ (l : List UInt8) (acc : Nat), (∀ c ∈ l, IsDig c) → lp true (wrap64 (-(acc : Int))) l = some (wrap64 (-((valA acc l : Nat) : Int))) := by
  intro l
  induction l with
  | nil => intro acc _; rw [valA_nil]; rfl
  | cons c r ih =>
    intro acc hd
    have hc := hd c (by simp)
    rw [lp, if_pos (show 48 ≤ c.toNat ∧ c.toNat ≤ 57 from hc), if_pos rfl, wrap_step, show -(acc : Int) * 10 + -((c.toNat : Int) - 48) = -((dstep acc c : Nat) : Int) by rw [dstep_int hc]; omega, valA_cons]
    exact ih _ (fun b hb => hd b (by simp [hb]))
theorem number_f (s : ByteArray) : ∃ (K : Nat) (n : Int) (ok : Bool), (∀ k, K ≤ k → spec_l5Number.f k s = some (n, ok)) ∧ (ok = true → NumOK s n) ∧ (ok = false → ∀ v, ¬ NumOK s v) := by
  have hl : s.data.toList.length = s.size := Array.length_toList
  by_cases h1 : s.size < 1
  · refine ⟨1, 0, false, ?_, (fun h => Bool.noConfusion h), ?_⟩
    · intro k hk
      obtain ⟨k, rfl⟩ : ∃ q, k = q + 1 := ⟨k - 1, by omega⟩
      rw [spec_l5Number.f, if_pos (by omega), spec_l5Number.j0, if_pos rfl]
    · intro _ v hv
      obtain ⟨D, hD0, _, _, _, hs, _⟩ := num_facts hv
      have : s.data.toList = [] := List.length_eq_zero_iff.1 (by omega)
      rcases hs with hs | ⟨hs, _⟩
      · rw [this] at hs; cases hs
      · exact hD0 (hs ▸ this)
  by_cases h20 : s.size > 20
  · refine ⟨1, 0, false, ?_, (fun h => Bool.noConfusion h), ?_⟩
    · intro k hk
      obtain ⟨k, rfl⟩ : ∃ q, k = q + 1 := ⟨k - 1, by omega⟩
      rw [spec_l5Number.f, if_neg (by omega), spec_l5Number.j0, if_pos (decide_eq_true (by omega))]
    · intro _ v hv
      obtain ⟨D, _, h19, _, _, hs, _⟩ := num_facts hv
      rcases hs with hs | ⟨hs, _⟩
      · rw [hs, List.length_cons] at hl; omega
      · rw [hs] at hl; omega
  obtain ⟨c, r, hcr⟩ : ∃ c r, s.data.toList = c :: r := by
    cases h : s.data.toList with
    | nil => rw [h] at hl; simp at hl; omega
    | cons c r => exact ⟨c, r, rfl⟩
  have hd0 : s.data.toList.drop 0 = c :: r := hcr
  obtain ⟨hlt, hb, hd1⟩ := bt_drop hd0
  have hb0 : bt s 0 = (c.toNat : Int) := hb
  -- the loop's end
  obtain ⟨rem, neg, hneg, hrem, K, hK⟩ : ∃ (rem : List UInt8) (neg : Bool), neg = decide (bt s 0 = 45) ∧ (s.data.toList = if neg then 45 :: rem else rem) ∧ ∃ K, ∀ k, K ≤ k → spec_l5Number.l0 k s 0 0 = some (lpEnd s (lp neg 0 rem)) := by
    by_cases h45 : bt s 0 = 45
    · refine ⟨r, true, (decide_eq_true h45).symm, ?_, ?_⟩
      · have hc45 : c = 45 := UInt8.toNat_inj.1 (by have : c.toNat = 45 := by omega
                                                    exact this)
        rw [if_pos rfl, hcr, hc45]
      · obtain ⟨K, hK⟩ := num_loop (s := s) (by omega) r 1 0 hd1 (by omega) (by omega) (by omega) (by omega)
        rw [decide_eq_true h45] at hK
        refine ⟨K + 2, fun k hk => ?_⟩
        obtain ⟨k, rfl⟩ : ∃ q, k = q + 2 := ⟨k - 2, by omega⟩
        rw [spec_l5Number.l0, if_pos (by omega), if_pos (by omega), if_pos h45, spec_l5Number.j2, if_pos (by rfl), show wrap64 (0 + 1) = ((1 : Nat) : Int) by unfold wrap64; omega]
        exact hK k (by omega)
    · refine ⟨c :: r, false, (decide_eq_false h45).symm, by rw [if_neg (by decide)]; exact hcr, ?_⟩
      obtain ⟨K, hK⟩ := num_loop (s := s) (by omega) (c :: r) 0 0 hd0 (by omega) (fun _ => h45) (by omega) (by omega)
      rw [decide_eq_false h45] at hK
      exact ⟨K, hK⟩
  have hf : ∀ k, K + 1 ≤ k → spec_l5Number.f k s = some (lpEnd s (lp neg 0 rem)) := fun k hk => by
    obtain ⟨k, rfl⟩ : ∃ q, k = q + 1 := ⟨k - 1, by omega⟩
    rw [spec_l5Number.f, if_neg (by omega), spec_l5Number.j0, decide_eq_false (by omega), if_neg (by decide)]
    exact hK k (by omega)
  have hno : ∀ v, NumOK s v → lp neg 0 rem = some v ∧ Lib.itoa v = s.data.toList := by
    intro v hv
    obtain ⟨hi, hv1, hv2⟩ := num_itoa hv
    refine ⟨?_, hi.symm⟩
    obtain ⟨u, hu⟩ : ∃ u : Nat, u = v.natAbs := ⟨_, rfl⟩
    obtain ⟨hd, hval, hz, hne⟩ := dec_spec u
    by_cases hvn : v < 0
    · rw [show v = -(u : Int) by omega, Lib.itoa_neg u (by omega)] at hi
      have hc : c = 45 := by rw [hcr] at hi; exact (List.cons.inj hi).1
      have hn : neg = true := by rw [hneg, hb0, hc]; rfl
      rw [hn, if_pos rfl] at hrem
      have hr : rem = Lib.decDigits u := by rw [hrem] at hi; exact (List.cons.inj hi).2
      rw [hn, hr]
      have h := lp_neg (Lib.decDigits u) 0 hd
      rw [hval] at h
      rw [show (0 : Int) = wrap64 (-((0 : Nat) : Int)) by unfold wrap64; omega, h, wrap_in (by omega) (by omega)]
      congr 1; omega
    · rw [show v = (u : Int) by omega, Lib.itoa_nonneg] at hi
      have hcd : IsDig c := hd c (by rw [← hi, hcr]; simp)
      have hn : neg = false := by
        rw [hneg, hb0]
        exact decide_eq_false (by have := hcd.1; omega)
      rw [hn, if_neg (by decide)] at hrem
      have hr : rem = Lib.decDigits u := by rw [← hrem, hi]
      rw [hn, hr]
      have h := lp_pos (Lib.decDigits u) 0 hd
      rw [hval] at h
      rw [show (0 : Int) = wrap64 (((0 : Nat) : Int)) by unfold wrap64; omega, h, wrap_in (by omega) (by omega)]
      congr 1; omega
  cases hlp : lp neg 0 rem with
  | none =>
    rw [hlp] at hf hno
    exact ⟨K + 1, 0, false, hf, (fun h => Bool.noConfusion h), (fun _ v hv => by cases (hno v hv).1)⟩
  | some m =>
    rw [hlp] at hf hno
    refine ⟨K + 1, m, decide (Lib.itoa m = s.data.toList), hf, fun h => ?_, fun h v hv => ?_⟩
    · obtain ⟨m1, m2⟩ := lp_range neg rem 0 m (by omega) (by omega) hlp
      exact itoa_num (of_decide_eq_true h).symm m1 m2
    · obtain ⟨e, hi⟩ := hno v hv
      cases e
      exact of_decide_eq_false h hi
end Go.Proofs.YtbdpnimfkogajaaDoor.Txt
