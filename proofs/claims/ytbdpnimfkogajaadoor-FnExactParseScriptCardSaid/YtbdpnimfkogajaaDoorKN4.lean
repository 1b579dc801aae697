/- Proved here: what the readers of a script's lines do. -/
import Derived.Test.YtbdpnimfkogajaaDoorKN3
namespace Go.Proofs.YtbdpnimfkogajaaDoor.Txt
open Go.RowKit Go.Proofs.YtbdpnimfkogajaaDoorW.PrintWords Go.Proofs.YtbdpnimfkogajaaDoorW.PrintLast Go.Proofs.YtbdpnimfkogajaaDoorW.PrintMore Go.Proofs.YtbdpnimfkogajaaDoor.PFnExactParseScript
set_option linter.unusedVariables false
theorem within_calls (x lo hi : Int) (r : Bool) (hr : r = decide (lo ≤ x ∧ x ≤ hi)) (w : World) : Calls Tryd.prog 18 #[.int .i64 x, .int .i64 lo, .int .i64 hi] w fun e w' => e = .returned (.bool r) ∧ w = w' := by
  by_cases h1 : lo ≤ x
  · by_cases h2 : x ≤ hi
    · obtain rfl : r = true := by rw [hr]; exact decide_eq_true ⟨h1, h2⟩
      clear hr
      go_enter Tryd.func18, Tryd.ntmps18
      go_wp2
      go_ret
      exact ⟨rfl, rfl⟩
    · obtain rfl : r = false := by rw [hr]; exact decide_eq_false fun h => h2 h.2
      clear hr
      go_enter Tryd.func18, Tryd.ntmps18
      go_wp2
      go_ret
      exact ⟨rfl, rfl⟩
  · obtain rfl : r = false := by rw [hr]; exact decide_eq_false fun h => h1 h.1
    clear hr
    go_enter Tryd.func18, Tryd.ntmps18
    go_wp2
    go_ret
    exact ⟨rfl, rfl⟩
def ReadEnds (b : Nat) (I : List Int → Prop) (w : World) (e : Ending) (w' : World) : Prop :=
  ∃ ok cs', e = .returned (.bool ok) ∧ Only b w w' ∧ cs'.length = 4 ∧ w'.heap[b]? = some (blkL cs') ∧ (ok = true → I cs') ∧ (ok = false → ∀ cs', ¬ I cs')
def One (k lo hi : Int) (l : List ByteArray) (cs : List Int) : Prop := ∃ x v, l = [x] ∧ NumOK x v ∧ lo ≤ v ∧ v ≤ hi ∧ cs = [k, 0, 0, v]
theorem len_one {β : Type} : ∀ {l : List β}, l.length = 1 → ∃ a, l = [a]
  | [a], _ => ⟨a, rfl⟩
theorem num_one {s : ByteArray} {u v : Int} (h : NumOK s u) (k : NumOK s v) : u = v := by
  have := h.val.symm.trans k.val
  injection this
theorem al (w : World) (o : Obj) : Below w.heap.size w (w.alloc o) := (Below.refl _ w).alloc (Nat.le_refl _) o
theorem ptrs_new (w : World) (ps : List Addr) (b : Nat) (ix : List Nat) (h : ps = ix.map fun i => ⟨b, i, none⟩) : ∀ (k i : Nat), ix[k]? = some i → (w.alloc (.cells ((ps.map fun a => Value.pointer (some a)).toArray) 42)).cell? ⟨w.heap.size, k, none⟩ = some (.pointer (some ⟨b, i, none⟩)) := by
  intro k i hi
  subst h
  unfold World.cell?
  rw [blk_new]
  simp [hi]
set_option maxHeartbeats 800000 in
set_option maxRecDepth 100000 in
theorem tick_calls {w : World} {A : Option Addr} {c b : Nat} {l : List ByteArray} {k : Int} (hE0 : ErrV w) (hr0 : Kd.C Kd.string w A l.length l) (hc : l.length ≤ c) (hA : ∀ ad, A = some ad → ad.block ≠ b)
    (hb0 : w.heap[b]? = some (blkL [k, 0, 0, 0])) (h5 : 5 ≠ b) (h6 : 6 ≠ b) (hsz0 : ∀ x ∈ l, x.size ≤ 281474976710656) :
    Calls Tryd.prog 17 #[.pointer (some ⟨b, 0, none⟩), .slice A l.length c] w fun e w' => ReadEnds b (One k 1 100 l) w e w' := by
  have hE := Aside0.mk hE0
  have hR := Aside0.mk hr0
  have hb := Aside0.mk hb0
  have hsz := Aside0.mk hsz0
  have hAb := Aside0.mk hA
  have hlm := hr0.2.1
  clear hE0 hr0 hb0 hsz0 hA
  have hu28 := Tryd.underlying28
  have hu59 := Tryd.underlying59
  by_cases h1 : (l.length : Int) = 1
  · obtain ⟨x, hx⟩ := len_one (l := l) (by omega)
    have HX := Aside0.mk hx
    clear hx
    go_enter Tryd.func17, Tryd.ntmps17
    go_wp2_with fail
    refine (numbers_calls (n := 1) (ix := [3]) (cs := [k, 0, 0, 0]) (hE.out.below (al _ _)) (Kd.C_alloc hR.out _) hc hAb.out (ptrs_new w [⟨b, 3, none⟩] b [3] rfl) (Nat.ne_of_gt (blk_lt hb.out)) ((Below.heap_alloc w _ b (blk_lt hb.out)).trans hb.out) (by simp) rfl (by omega) h5 h6 hsz.out).mono ?_
    rintro e w2 ⟨ok, rfl, hO, ⟨cs', hl4, hb4⟩, hyes, hno⟩
    have HO := Aside0.mk ((Only.of_below (al w _)).trans hO)
    cases ok with
    | false =>
      have HN := Aside0.mk (show ∀ cs', ¬ One k 1 100 l cs' from fun cs2 ⟨y, v, e, hn, _⟩ => by
        rcases hno rfl with h | ⟨m, s, hm, hs, hbad⟩
        · omega
        · obtain rfl : m = 0 := by omega
          rw [e] at hs
          cases hs
          exact hbad v hn)
      have HB4 := Aside0.mk hb4
      clear hyes hno hO hb4
      go_wp2_with fail
      go_ret
      exact ⟨false, cs', rfl, HO.out, hl4, HB4.out, fun h => absurd h (by decide), fun _ => HN.out⟩
    | true =>
      obtain ⟨vs, hvl, _, hvv, hb5⟩ := hyes rfl
      obtain ⟨v, rfl⟩ := len_one hvl
      have HV := Aside0.mk (show NumOK x v from by
        obtain ⟨s, hs, hn⟩ := hvv 0 v rfl
        rw [HX.out] at hs
        cases hs
        exact hn)
      have HB5 := Aside0.mk (show w2.heap[b]? = some (blkL [k, 0, 0, v]) from hb5)
      have hc3 := blkL_cell HB5.out (i := 3) (by simp)
      simp only [List.getElem_cons_succ, List.getElem_cons_zero] at hc3
      clear hyes hno hO hb4 hb5 hvv
      obtain ⟨r, hr⟩ : ∃ r, r = decide (1 ≤ v ∧ v ≤ 100) := ⟨_, rfl⟩
      have HRR := Aside0.mk hr
      clear hr
      go_wp2_with (first | (go_at_call 18; refine (within_calls v 1 100 r HRR.out _).mono ?_; rintro e w3 ⟨rfl, rfl⟩))
      go_ret
      exact ⟨r, [k, 0, 0, v], rfl, HO.out, rfl, HB5.out, fun h => ⟨x, v, HX.out, HV.out, (of_decide_eq_true (HRR.out.symm.trans h)).1, (of_decide_eq_true (HRR.out.symm.trans h)).2, rfl⟩, fun h cs2 ⟨y, u, e, hn, h2, h3, _⟩ => by
        rw [HX.out] at e
        cases e
        have := num_one HV.out hn
        subst this
        exact of_decide_eq_false (HRR.out.symm.trans h) ⟨h2, h3⟩⟩
  · have HN := Aside0.mk (show ∀ cs', ¬ One k 1 100 l cs' from fun cs' ⟨x, v, e, _⟩ => h1 (by rw [e]; rfl))
    go_enter Tryd.func17, Tryd.ntmps17
    go_wp2_with fail
    go_ret
    exact ⟨false, _, rfl, Only.refl _ _, rfl, hb.out, fun h => absurd h (by decide), fun _ => HN.out⟩
set_option maxHeartbeats 800000 in
set_option maxRecDepth 100000 in
theorem run_calls {w : World} {A : Option Addr} {c b : Nat} {l : List ByteArray} {k : Int} (hE0 : ErrV w) (hr0 : Kd.C Kd.string w A l.length l) (hc : l.length ≤ c) (hA : ∀ ad, A = some ad → ad.block ≠ b)
    (hb0 : w.heap[b]? = some (blkL [k, 0, 0, 0])) (h5 : 5 ≠ b) (h6 : 6 ≠ b) (hsz0 : ∀ x ∈ l, x.size ≤ 281474976710656) :
    Calls Tryd.prog 19 #[.pointer (some ⟨b, 0, none⟩), .slice A l.length c] w fun e w' => ReadEnds b (One k 0 10000 l) w e w' := by
  have hE := Aside0.mk hE0
  have hR := Aside0.mk hr0
  have hb := Aside0.mk hb0
  have hsz := Aside0.mk hsz0
  have hAb := Aside0.mk hA
  have hlm := hr0.2.1
  clear hE0 hr0 hb0 hsz0 hA
  have hu28 := Tryd.underlying28
  have hu59 := Tryd.underlying59
  by_cases h1 : (l.length : Int) = 1
  · obtain ⟨x, hx⟩ := len_one (l := l) (by omega)
    have HX := Aside0.mk hx
    clear hx
    go_enter Tryd.func19, Tryd.ntmps19
    go_wp2_with fail
    refine (numbers_calls (n := 1) (ix := [3]) (cs := [k, 0, 0, 0]) (hE.out.below (al _ _)) (Kd.C_alloc hR.out _) hc hAb.out (ptrs_new w [⟨b, 3, none⟩] b [3] rfl) (Nat.ne_of_gt (blk_lt hb.out)) ((Below.heap_alloc w _ b (blk_lt hb.out)).trans hb.out) (by simp) rfl (by omega) h5 h6 hsz.out).mono ?_
    rintro e w2 ⟨ok, rfl, hO, ⟨cs', hl4, hb4⟩, hyes, hno⟩
    have HO := Aside0.mk ((Only.of_below (al w _)).trans hO)
    cases ok with
    | false =>
      have HN := Aside0.mk (show ∀ cs', ¬ One k 0 10000 l cs' from fun cs2 ⟨y, v, e, hn, _⟩ => by
        rcases hno rfl with h | ⟨m, s, hm, hs, hbad⟩
        · omega
        · obtain rfl : m = 0 := by omega
          rw [e] at hs
          cases hs
          exact hbad v hn)
      have HB4 := Aside0.mk hb4
      clear hyes hno hO hb4
      go_wp2_with fail
      go_ret
      exact ⟨false, cs', rfl, HO.out, hl4, HB4.out, fun h => absurd h (by decide), fun _ => HN.out⟩
    | true =>
      obtain ⟨vs, hvl, _, hvv, hb5⟩ := hyes rfl
      obtain ⟨v, rfl⟩ := len_one hvl
      have HV := Aside0.mk (show NumOK x v from by
        obtain ⟨s, hs, hn⟩ := hvv 0 v rfl
        rw [HX.out] at hs
        cases hs
        exact hn)
      have HB5 := Aside0.mk (show w2.heap[b]? = some (blkL [k, 0, 0, v]) from hb5)
      have hc3 := blkL_cell HB5.out (i := 3) (by simp)
      simp only [List.getElem_cons_succ, List.getElem_cons_zero] at hc3
      clear hyes hno hO hb4 hb5 hvv
      obtain ⟨r, hr⟩ : ∃ r, r = decide (0 ≤ v ∧ v ≤ 10000) := ⟨_, rfl⟩
      have HRR := Aside0.mk hr
      clear hr
      go_wp2_with (first | (go_at_call 18; refine (within_calls v 0 10000 r HRR.out _).mono ?_; rintro e w3 ⟨rfl, rfl⟩))
      go_ret
      exact ⟨r, [k, 0, 0, v], rfl, HO.out, rfl, HB5.out, fun h => ⟨x, v, HX.out, HV.out, (of_decide_eq_true (HRR.out.symm.trans h)).1, (of_decide_eq_true (HRR.out.symm.trans h)).2, rfl⟩, fun h cs2 ⟨y, u, e, hn, h2, h3, _⟩ => by
        rw [HX.out] at e
        cases e
        have := num_one HV.out hn
        subst this
        exact of_decide_eq_false (HRR.out.symm.trans h) ⟨h2, h3⟩⟩
  · have HN := Aside0.mk (show ∀ cs', ¬ One k 0 10000 l cs' from fun cs' ⟨x, v, e, _⟩ => h1 (by rw [e]; rfl))
    go_enter Tryd.func19, Tryd.ntmps19
    go_wp2_with fail
    go_ret
    exact ⟨false, _, rfl, Only.refl _ _, rfl, hb.out, fun h => absurd h (by decide), fun _ => HN.out⟩
end Go.Proofs.YtbdpnimfkogajaaDoor.Txt
