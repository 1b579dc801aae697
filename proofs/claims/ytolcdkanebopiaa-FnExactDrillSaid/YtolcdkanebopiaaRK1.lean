/- Proved here: what the law's mark functions do to a chart: they write numbers where numbers stood, in the chart's own blocks, and nothing else; the count stays small. Conditions: the chart's rows lie in blocks lo .. hi-1 and are short. -/
import Derived.Test.YtolcdkanebopiaaRM2
namespace Go.Proofs.Ytolcdkanebopiaa.Tree
open Go.RowKit Go.Proofs.YtolcdkanebopiaaW.PrintWords Go.Proofs.YtolcdkanebopiaaW.PrintLast Go.Proofs.YtolcdkanebopiaaW.PrintMore Go.Proofs.Ytolcdkanebopiaa.PFnExactDomain
set_option linter.unusedVariables false
set_option linter.unusedSimpArgs false
def IntC (w : World) (a : Addr) : Prop := w.frozen? a = false ∧ ∃ m : Int, w.cell? a = some (.int .i64 m)
structure Mk (lo hi : Nat) (w w' : World) : Prop where
  below : Below lo w w'
  upper : ∀ k, hi ≤ k → k < w.heap.size → w'.heap[k]? = w.heap[k]?
  cell : ∀ a v, w.cell? a = some v → w'.frozen? a = w.frozen? a ∧ (w'.cell? a = some v ∨ ((∃ m : Int, v = .int .i64 m) ∧ ∃ m : Int, w'.cell? a = some (.int .i64 m)))
section
variable {lo hi : Nat} {w wr w' u : World} {a a2 : Addr} {v : Value} {q : Int}
theorem Mk.refl (lo hi : Nat) (w : World) : Mk lo hi w w := ⟨Below.refl _ _, fun _ _ _ => rfl, fun _ _ h => ⟨rfl, .inl h⟩⟩
theorem Mk.trans (h : Mk lo hi w wr) (k : Mk lo hi wr w') : Mk lo hi w w' := by
  refine ⟨h.below.trans k.below, fun i h1 h2 => (k.upper i h1 (Nat.lt_of_lt_of_le h2 h.below.size)).trans (h.upper i h1 h2), fun a v hc => ?_⟩
  obtain ⟨f1, c1⟩ := h.cell a v hc
  rcases c1 with c1 | ⟨hv, m, c1⟩
  · obtain ⟨f2, c2⟩ := k.cell a v c1
    exact ⟨f2.trans f1, c2⟩
  · obtain ⟨f2, c2⟩ := k.cell a _ c1
    refine ⟨f2.trans f1, .inr ⟨hv, ?_⟩⟩
    rcases c2 with c2 | ⟨_, c2⟩
    · exact ⟨m, c2⟩
    · exact c2
theorem Mk.drewN (h : Mk lo hi w wr) (m : Nat) : Mk lo hi w (wr.drewN m) := ⟨below_drewN h.below m, h.upper, h.cell⟩
theorem Mk.set (hw : w' = wr.setCell a (.int .i64 q)) (h : IntC wr a) (h1 : lo ≤ a.block) (h2 : a.block < hi) : Mk lo hi wr w' := by
  subst hw
  refine ⟨(Below.refl _ _).setCell h1 _, fun k hk _ => Below.heap_setCell wr a _ k (by omega), fun b v hc => ⟨World.frozen?_setCell _ _ _ _, ?_⟩⟩
  obtain ⟨_, m, hm⟩ := h
  by_cases e : a = b
  · subst e
    rw [hm] at hc
    cases hc
    exact .inr ⟨⟨m, rfl⟩, q, World.cell?_setCell_same _ _ _ hm⟩
  · exact .inl ((World.cell?_setCell_other _ _ _ _ e).trans hc)
theorem IntC.mk (h : IntC w a) (k : Mk lo hi w w') : IntC w' a := by
  obtain ⟨f, m, hc⟩ := h
  obtain ⟨f2, c2⟩ := k.cell a _ hc
  refine ⟨f2.trans f, ?_⟩
  rcases c2 with c2 | ⟨_, c2⟩
  · exact ⟨m, c2⟩
  · exact c2
theorem Mk.slice {A : Option Addr} {n c : Nat} (k : Mk lo hi w w') (h : w.cell? a = some (.slice A n c)) : w'.cell? a = some (.slice A n c) := by
  obtain ⟨_, c2⟩ := k.cell a _ h
  rcases c2 with c2 | ⟨⟨_, hv⟩, _⟩
  · exact c2
  · cases hv
end
def Ok (E : World → Nat → Nat → Prop) (lo hi : Nat) (w : World) (A : Option Addr) (n : Nat) : Prop := n ≤ 1048576 ∧ (0 < n → ∃ b, A = some ⟨b, 0, none⟩ ∧ lo ≤ b ∧ b < hi ∧ ∀ j, j < n → E w b j)
def itemE (w : World) (b j : Nat) : Prop := IntC w ⟨b, j * 2, none⟩ ∧ IntC w ⟨b, j * 2 + 1, none⟩
def stmE (lo hi : Nat) (w : World) (b j : Nat) : Prop := IntC w ⟨b, j * 4, none⟩ ∧ IntC w ⟨b, j * 4 + 1, none⟩ ∧ IntC w ⟨b, j * 4 + 2, none⟩ ∧ ∃ A n c, w.cell? ⟨b, j * 4 + 3, none⟩ = some (.slice A n c) ∧ Ok itemE lo hi w A n
def stateE (lo hi : Nat) (w : World) (b j : Nat) : Prop := IntC w ⟨b, j * 4, none⟩ ∧ IntC w ⟨b, j * 4 + 1, none⟩ ∧ (∃ A n c, w.cell? ⟨b, j * 4 + 2, none⟩ = some (.slice A n c) ∧ Ok (stmE lo hi) lo hi w A n) ∧ ∃ A n c, w.cell? ⟨b, j * 4 + 3, none⟩ = some (.slice A n c) ∧ Ok (stmE lo hi) lo hi w A n
def transE (lo hi : Nat) (w : World) (b j : Nat) : Prop := IntC w ⟨b, j * 5, none⟩ ∧ IntC w ⟨b, j * 5 + 1, none⟩ ∧ (∃ A n c, w.cell? ⟨b, j * 5 + 2, none⟩ = some (.slice A n c) ∧ Ok itemE lo hi w A n) ∧ IntC w ⟨b, j * 5 + 3, none⟩ ∧ ∃ A n c, w.cell? ⟨b, j * 5 + 4, none⟩ = some (.slice A n c) ∧ Ok (stmE lo hi) lo hi w A n
section
variable {lo hi : Nat} {w w' : World} {b j n : Nat} {A : Option Addr}
theorem Ok.mk {E : World → Nat → Nat → Prop} (h : Ok E lo hi w A n) (he : ∀ b j, E w b j → E w' b j) : Ok E lo hi w' A n :=
  ⟨h.1, fun hn => by obtain ⟨b, e, h1, h2, h3⟩ := h.2 hn; exact ⟨b, e, h1, h2, fun j hj => he b j (h3 j hj)⟩⟩
theorem itemE_mk (k : Mk lo hi w w') (h : itemE w b j) : itemE w' b j := ⟨h.1.mk k, h.2.mk k⟩
theorem okItem_mk (k : Mk lo hi w w') (h : Ok itemE lo hi w A n) : Ok itemE lo hi w' A n := h.mk fun _ _ => itemE_mk k
theorem stmE_mk (k : Mk lo hi w w') (h : stmE lo hi w b j) : stmE lo hi w' b j := by
  obtain ⟨h0, h1, h2, A, n, c, h3, h4⟩ := h
  exact ⟨h0.mk k, h1.mk k, h2.mk k, A, n, c, k.slice h3, okItem_mk k h4⟩
theorem okStm_mk (k : Mk lo hi w w') (h : Ok (stmE lo hi) lo hi w A n) : Ok (stmE lo hi) lo hi w' A n := h.mk fun _ _ => stmE_mk k
theorem stateE_mk (k : Mk lo hi w w') (h : stateE lo hi w b j) : stateE lo hi w' b j := by
  obtain ⟨h0, h1, ⟨A, n, c, h2, h3⟩, A2, n2, c2, h4, h5⟩ := h
  exact ⟨h0.mk k, h1.mk k, ⟨A, n, c, k.slice h2, okStm_mk k h3⟩, A2, n2, c2, k.slice h4, okStm_mk k h5⟩
theorem transE_mk (k : Mk lo hi w w') (h : transE lo hi w b j) : transE lo hi w' b j := by
  obtain ⟨h0, h1, ⟨A, n, c, h2, h3⟩, h4, A2, n2, c2, h5, h6⟩ := h
  exact ⟨h0.mk k, h1.mk k, ⟨A, n, c, k.slice h2, okItem_mk k h3⟩, h4.mk k, A2, n2, c2, k.slice h5, okStm_mk k h6⟩
end
set_option maxHeartbeats 800000 in
set_option maxRecDepth 100000 in
theorem markItem_calls {lo hi n c : Nat} {w : World} {A : Option Addr} {k : Int} (h : Ok itemE lo hi w A n) (hk : 0 ≤ k) (hk2 : k + n * 2 ≤ 9000000000000000000) :
    Calls Try.prog 50 #[.slice A n c, .int .i64 k] w fun e w' => ∃ r : Int, e = .returned (.int .i64 r) ∧ k ≤ r ∧ r ≤ k + n * 2 ∧ Mk lo hi w w' := by
  obtain ⟨hn, hr⟩ := h
  have HR := Aside0.mk hr
  clear hr
  have hu := Try.underlying78
  go_enter Try.func50, Try.ntmps50
  go_wp2
  go_loopg [1, 5] n (fun g v1 v5 wr => ∃ (kk : Int) (m : Nat), v1 = .int .i64 kk ∧ v5 = .int .i64 m ∧ m ≤ n ∧ 0 ≤ kk ∧ kk ≤ k + m * 2 ∧ Aside0 (k ≤ kk) ∧ Aside0 (g = n - m) ∧ Aside0 (Mk lo hi w wr))
  case atStart => exact ⟨k, 0, rfl, rfl, Nat.zero_le _, hk, by omega, ⟨by omega⟩, ⟨rfl⟩, ⟨Mk.refl _ _ _⟩⟩
  case round =>
    obtain ⟨kk, m, rfl, rfl, hm, h0, h1, h2, hg, HM⟩ := hrel
    by_cases hlt : m < n
    · obtain ⟨b, rfl, hb1, hb2, he⟩ := HR.out (by omega)
      have HE := Aside0.mk (itemE_mk HM.out (he m hlt))
      clear he
      have hcap : k + m * 2 + 2 ≤ 9000000000000000000 := by omega
      obtain ⟨⟨f0, x0, d0⟩, ⟨f1, x1, d1⟩⟩ := HE.out
      go_wp2_with (first
        | ((with_reducible refine gate_store (t := 3) (p := 16) rfl ?_); refine store_event (t := 3) (p := 16) (v := ?vo0) (w1 := (wr.setCell ⟨b, m * 2, none⟩ (.int .i64 (kk)))) ?hg ?ho ?hn ?hr ?_; (case ho => rfl); (case hg => rfl); (case hn => rfl); (case hr => first | (go_simp; done) | (go_simp; rfl)); intro w60 hw; have S_ := Mk.set (lo := lo) (hi := hi) hw HE.out.1 hb1 hb2; clear hw; have n_ := Aside0.mk (HM.out.trans S_); clear HM; have HM := n_; clear n_; have n_ := Aside0.mk (itemE_mk S_ HE.out); clear HE; have HE := n_; clear n_ S_ f0 d0 f1 d1; obtain ⟨⟨f0, x0, d0⟩, ⟨f1, x1, d1⟩⟩ := HE.out)
        | ((with_reducible refine gate_store (t := 3) (p := 23) rfl ?_); refine store_event (t := 3) (p := 23) (v := ?vo1) (w1 := (w60.setCell ⟨b, m * 2 + 1, none⟩ (.int .i64 (kk + 1)))) ?hg ?ho ?hn ?hr ?_; (case ho => rfl); (case hg => rfl); (case hn => rfl); (case hr => first | (go_simp; done) | (go_simp; rfl)); intro w61 hw; have S_ := Mk.set (lo := lo) (hi := hi) hw HE.out.2 hb1 hb2; clear hw; have n_ := Aside0.mk (HM.out.trans S_); clear HM; have HM := n_; clear n_; have n_ := Aside0.mk (itemE_mk S_ HE.out); clear HE; have HE := n_; clear n_ S_ f0 d0 f1 d1; obtain ⟨⟨f0, x0, d0⟩, ⟨f1, x1, d1⟩⟩ := HE.out))
      go_roundg (n - (m + 1))
      case measure => have := hg.out; omega
      case rel => exact ⟨kk + 1 + 1, m + 1, by go_num, by go_num, by omega, by omega, by omega, ⟨by have := h2.out; omega⟩, ⟨rfl⟩, HM⟩
    · obtain rfl : m = n := by omega
      go_wp2
      go_ret
      exact ⟨kk, rfl, h2.out, h1, HM.out⟩
set_option maxHeartbeats 800000 in
set_option maxRecDepth 100000 in
theorem markStm_calls {lo hi n c : Nat} {w : World} {A : Option Addr} {k : Int} (h : Ok (stmE lo hi) lo hi w A n) (hk : 0 ≤ k) (hk2 : k + n * 2097155 ≤ 9000000000000000000) :
    Calls Try.prog 49 #[.slice A n c, .int .i64 k] w fun e w' => ∃ r : Int, e = .returned (.int .i64 r) ∧ k ≤ r ∧ r ≤ k + n * 2097155 ∧ Mk lo hi w w' := by
  obtain ⟨hn, hr⟩ := h
  have HR := Aside0.mk hr
  clear hr
  have hu := Try.underlying74
  have tok3 : True := trivial
  go_enter Try.func49, Try.ntmps49
  go_wp2
  go_loopg [1, 5] n (fun g v1 v5 wr => ∃ (kk : Int) (m : Nat), v1 = .int .i64 kk ∧ v5 = .int .i64 m ∧ m ≤ n ∧ 0 ≤ kk ∧ kk ≤ k + m * 2097155 ∧ Aside0 (k ≤ kk) ∧ Aside0 (g = n - m) ∧ Aside0 (Mk lo hi w wr))
  case atStart => exact ⟨k, 0, rfl, rfl, Nat.zero_le _, hk, by omega, ⟨by omega⟩, ⟨rfl⟩, ⟨Mk.refl _ _ _⟩⟩
  case round =>
    obtain ⟨kk, m, rfl, rfl, hm, h0, h1, h2, hg, HM⟩ := hrel
    by_cases hlt : m < n
    · obtain ⟨b, rfl, hb1, hb2, he⟩ := HR.out (by omega)
      have HE := Aside0.mk (stmE_mk HM.out (he m hlt))
      clear he
      have hcap : k + m * 2097155 + 2097155 ≤ 9000000000000000000 := by omega
      obtain ⟨⟨f0, x0, d0⟩, ⟨f1, x1, d1⟩, ⟨f2, x2, d2⟩, ⟨A3, n3, c3, d3, o3⟩⟩ := HE.out; have l3 := o3.1; have O3 := Aside0.mk o3; clear o3
      go_wp2_with (first
        | ((with_reducible refine gate_store (t := 3) (p := 16) rfl ?_); refine store_event (t := 3) (p := 16) (v := ?vo0) (w1 := (wr.setCell ⟨b, m * 4, none⟩ (.int .i64 (kk)))) ?hg ?ho ?hn ?hr ?_; (case ho => rfl); (case hg => rfl); (case hn => rfl); (case hr => first | (go_simp; done) | (go_simp; rfl)); intro w60 hw; have S_ := Mk.set (lo := lo) (hi := hi) hw HE.out.1 hb1 hb2; clear hw; have n_ := Aside0.mk (HM.out.trans S_); clear HM; have HM := n_; clear n_; have n_ := Aside0.mk (stmE_mk S_ HE.out); clear HE; have HE := n_; clear n_ S_ f0 d0 f1 d1 f2 d2 d3 O3 l3; obtain ⟨⟨f0, x0, d0⟩, ⟨f1, x1, d1⟩, ⟨f2, x2, d2⟩, ⟨A3, n3, c3, d3, o3⟩⟩ := HE.out; have l3 := o3.1; have O3 := Aside0.mk o3; clear o3)
        | ((with_reducible refine gate_store (t := 3) (p := 23) rfl ?_); refine store_event (t := 3) (p := 23) (v := ?vo1) (w1 := (w60.setCell ⟨b, m * 4 + 1, none⟩ (.int .i64 (kk + 1)))) ?hg ?ho ?hn ?hr ?_; (case ho => rfl); (case hg => rfl); (case hn => rfl); (case hr => first | (go_simp; done) | (go_simp; rfl)); intro w61 hw; have S_ := Mk.set (lo := lo) (hi := hi) hw HE.out.2.1 hb1 hb2; clear hw; have n_ := Aside0.mk (HM.out.trans S_); clear HM; have HM := n_; clear n_; have n_ := Aside0.mk (stmE_mk S_ HE.out); clear HE; have HE := n_; clear n_ S_ f0 d0 f1 d1 f2 d2 d3 O3 l3; obtain ⟨⟨f0, x0, d0⟩, ⟨f1, x1, d1⟩, ⟨f2, x2, d2⟩, ⟨A3, n3, c3, d3, o3⟩⟩ := HE.out; have l3 := o3.1; have O3 := Aside0.mk o3; clear o3)
        | ((with_reducible refine gate_store (t := 3) (p := 30) rfl ?_); refine store_event (t := 3) (p := 30) (v := ?vo2) (w1 := (w61.setCell ⟨b, m * 4 + 2, none⟩ (.int .i64 (kk + 1 + 1)))) ?hg ?ho ?hn ?hr ?_; (case ho => rfl); (case hg => rfl); (case hn => rfl); (case hr => first | (go_simp; done) | (go_simp; rfl)); intro w62 hw; have S_ := Mk.set (lo := lo) (hi := hi) hw HE.out.2.2.1 hb1 hb2; clear hw; have n_ := Aside0.mk (HM.out.trans S_); clear HM; have HM := n_; clear n_; have n_ := Aside0.mk (stmE_mk S_ HE.out); clear HE; have HE := n_; clear n_ S_ f0 d0 f1 d1 f2 d2 d3 O3 l3; obtain ⟨⟨f0, x0, d0⟩, ⟨f1, x1, d1⟩, ⟨f2, x2, d2⟩, ⟨A3, n3, c3, d3, o3⟩⟩ := HE.out; have l3 := o3.1; have O3 := Aside0.mk o3; clear o3)
        | (go_at_call 50; have _t := tok3; refine (markItem_calls (lo := lo) (hi := hi) O3.out (by omega) (by omega)).mono ?_; rintro e w63 ⟨r3, rfl, hr3, hs3, S_⟩; have ht3 : r3 ≤ kk + 1 + 1 + 1 + 2097152 := (by omega); clear hs3; clear tok3; have n_ := Aside0.mk (HM.out.trans S_); clear HM; have HM := n_; clear n_; have n_ := Aside0.mk (stmE_mk S_ HE.out); clear HE; have HE := n_; clear n_ S_ f0 d0 f1 d1 f2 d2 d3 O3 l3; obtain ⟨⟨f0, x0, d0⟩, ⟨f1, x1, d1⟩, ⟨f2, x2, d2⟩, ⟨A3, n3, c3, d3, o3⟩⟩ := HE.out; have l3 := o3.1; have O3 := Aside0.mk o3; clear o3))
      go_roundg (n - (m + 1))
      case measure => have := hg.out; omega
      case rel => exact ⟨r3, m + 1, by go_num, by go_num, by omega, by omega, by omega, ⟨by have := h2.out; omega⟩, ⟨rfl⟩, HM⟩
    · obtain rfl : m = n := by omega
      go_wp2
      go_ret
      exact ⟨kk, rfl, h2.out, h1, HM.out⟩
set_option maxHeartbeats 800000 in
set_option maxRecDepth 100000 in
theorem markState_calls {lo hi n c : Nat} {w : World} {A : Option Addr} {k : Int} (h : Ok (stateE lo hi) lo hi w A n) (hk : 0 ≤ k) (hk2 : k + n * 4398052802562 ≤ 9000000000000000000) :
    Calls Try.prog 34 #[.slice A n c, .int .i64 k] w fun e w' => ∃ r : Int, e = .returned (.int .i64 r) ∧ k ≤ r ∧ r ≤ k + n * 4398052802562 ∧ Mk lo hi w w' := by
  obtain ⟨hn, hr⟩ := h
  have HR := Aside0.mk hr
  clear hr
  have hu := Try.underlying28
  have tok2 : True := trivial
  have tok3 : True := trivial
  go_enter Try.func34, Try.ntmps34
  go_wp2
  go_loopg [1, 5] n (fun g v1 v5 wr => ∃ (kk : Int) (m : Nat), v1 = .int .i64 kk ∧ v5 = .int .i64 m ∧ m ≤ n ∧ 0 ≤ kk ∧ kk ≤ k + m * 4398052802562 ∧ Aside0 (k ≤ kk) ∧ Aside0 (g = n - m) ∧ Aside0 (Mk lo hi w wr))
  case atStart => exact ⟨k, 0, rfl, rfl, Nat.zero_le _, hk, by omega, ⟨by omega⟩, ⟨rfl⟩, ⟨Mk.refl _ _ _⟩⟩
  case round =>
    obtain ⟨kk, m, rfl, rfl, hm, h0, h1, h2, hg, HM⟩ := hrel
    by_cases hlt : m < n
    · obtain ⟨b, rfl, hb1, hb2, he⟩ := HR.out (by omega)
      have HE := Aside0.mk (stateE_mk HM.out (he m hlt))
      clear he
      have hcap : k + m * 4398052802562 + 4398052802562 ≤ 9000000000000000000 := by omega
      obtain ⟨⟨f0, x0, d0⟩, ⟨f1, x1, d1⟩, ⟨A2, n2, c2, d2, o2⟩, ⟨A3, n3, c3, d3, o3⟩⟩ := HE.out; have l2 := o2.1; have O2 := Aside0.mk o2; clear o2; have l3 := o3.1; have O3 := Aside0.mk o3; clear o3
      go_wp2_with (first
        | ((with_reducible refine gate_store (t := 3) (p := 16) rfl ?_); refine store_event (t := 3) (p := 16) (v := ?vo0) (w1 := (wr.setCell ⟨b, m * 4, none⟩ (.int .i64 (kk)))) ?hg ?ho ?hn ?hr ?_; (case ho => rfl); (case hg => rfl); (case hn => rfl); (case hr => first | (go_simp; done) | (go_simp; rfl)); intro w60 hw; have S_ := Mk.set (lo := lo) (hi := hi) hw HE.out.1 hb1 hb2; clear hw; have n_ := Aside0.mk (HM.out.trans S_); clear HM; have HM := n_; clear n_; have n_ := Aside0.mk (stateE_mk S_ HE.out); clear HE; have HE := n_; clear n_ S_ f0 d0 f1 d1 d2 O2 l2 d3 O3 l3; obtain ⟨⟨f0, x0, d0⟩, ⟨f1, x1, d1⟩, ⟨A2, n2, c2, d2, o2⟩, ⟨A3, n3, c3, d3, o3⟩⟩ := HE.out; have l2 := o2.1; have O2 := Aside0.mk o2; clear o2; have l3 := o3.1; have O3 := Aside0.mk o3; clear o3)
        | ((with_reducible refine gate_store (t := 3) (p := 23) rfl ?_); refine store_event (t := 3) (p := 23) (v := ?vo1) (w1 := (w60.setCell ⟨b, m * 4 + 1, none⟩ (.int .i64 (kk + 1)))) ?hg ?ho ?hn ?hr ?_; (case ho => rfl); (case hg => rfl); (case hn => rfl); (case hr => first | (go_simp; done) | (go_simp; rfl)); intro w61 hw; have S_ := Mk.set (lo := lo) (hi := hi) hw HE.out.2.1 hb1 hb2; clear hw; have n_ := Aside0.mk (HM.out.trans S_); clear HM; have HM := n_; clear n_; have n_ := Aside0.mk (stateE_mk S_ HE.out); clear HE; have HE := n_; clear n_ S_ f0 d0 f1 d1 d2 O2 l2 d3 O3 l3; obtain ⟨⟨f0, x0, d0⟩, ⟨f1, x1, d1⟩, ⟨A2, n2, c2, d2, o2⟩, ⟨A3, n3, c3, d3, o3⟩⟩ := HE.out; have l2 := o2.1; have O2 := Aside0.mk o2; clear o2; have l3 := o3.1; have O3 := Aside0.mk o3; clear o3)
        | (go_at_call 49; have _t := tok2; refine (markStm_calls (lo := lo) (hi := hi) O2.out (by omega) (by omega)).mono ?_; rintro e w62 ⟨r2, rfl, hr2, hs2, S_⟩; have ht2 : r2 ≤ kk + 1 + 1 + 2199026401280 := (by omega); clear hs2; clear tok2; have n_ := Aside0.mk (HM.out.trans S_); clear HM; have HM := n_; clear n_; have n_ := Aside0.mk (stateE_mk S_ HE.out); clear HE; have HE := n_; clear n_ S_ f0 d0 f1 d1 d2 O2 l2 d3 O3 l3; obtain ⟨⟨f0, x0, d0⟩, ⟨f1, x1, d1⟩, ⟨A2, n2, c2, d2, o2⟩, ⟨A3, n3, c3, d3, o3⟩⟩ := HE.out; have l2 := o2.1; have O2 := Aside0.mk o2; clear o2; have l3 := o3.1; have O3 := Aside0.mk o3; clear o3)
        | (go_at_call 49; have _t := tok3; refine (markStm_calls (lo := lo) (hi := hi) O3.out (by omega) (by omega)).mono ?_; rintro e w63 ⟨r3, rfl, hr3, hs3, S_⟩; have ht3 : r3 ≤ r2 + 2199026401280 := (by omega); clear hs3; clear tok3; have n_ := Aside0.mk (HM.out.trans S_); clear HM; have HM := n_; clear n_; have n_ := Aside0.mk (stateE_mk S_ HE.out); clear HE; have HE := n_; clear n_ S_ f0 d0 f1 d1 d2 O2 l2 d3 O3 l3; obtain ⟨⟨f0, x0, d0⟩, ⟨f1, x1, d1⟩, ⟨A2, n2, c2, d2, o2⟩, ⟨A3, n3, c3, d3, o3⟩⟩ := HE.out; have l2 := o2.1; have O2 := Aside0.mk o2; clear o2; have l3 := o3.1; have O3 := Aside0.mk o3; clear o3))
      go_roundg (n - (m + 1))
      case measure => have := hg.out; omega
      case rel => exact ⟨r3, m + 1, by go_num, by go_num, by omega, by omega, by omega, ⟨by have := h2.out; omega⟩, ⟨rfl⟩, HM⟩
    · obtain rfl : m = n := by omega
      go_wp2
      go_ret
      exact ⟨kk, rfl, h2.out, h1, HM.out⟩
set_option maxHeartbeats 800000 in
set_option maxRecDepth 100000 in
theorem markTrans_calls {lo hi n c : Nat} {w : World} {A : Option Addr} {k : Int} (h : Ok (transE lo hi) lo hi w A n) (hk : 0 ≤ k) (hk2 : k + n * 2199028498435 ≤ 9000000000000000000) :
    Calls Try.prog 35 #[.slice A n c, .int .i64 k] w fun e w' => ∃ r : Int, e = .returned (.int .i64 r) ∧ k ≤ r ∧ r ≤ k + n * 2199028498435 ∧ Mk lo hi w w' := by
  obtain ⟨hn, hr⟩ := h
  have HR := Aside0.mk hr
  clear hr
  have hu := Try.underlying29
  have tok2 : True := trivial
  have tok4 : True := trivial
  go_enter Try.func35, Try.ntmps35
  go_wp2
  go_loopg [1, 5] n (fun g v1 v5 wr => ∃ (kk : Int) (m : Nat), v1 = .int .i64 kk ∧ v5 = .int .i64 m ∧ m ≤ n ∧ 0 ≤ kk ∧ kk ≤ k + m * 2199028498435 ∧ Aside0 (k ≤ kk) ∧ Aside0 (g = n - m) ∧ Aside0 (Mk lo hi w wr))
  case atStart => exact ⟨k, 0, rfl, rfl, Nat.zero_le _, hk, by omega, ⟨by omega⟩, ⟨rfl⟩, ⟨Mk.refl _ _ _⟩⟩
  case round =>
    obtain ⟨kk, m, rfl, rfl, hm, h0, h1, h2, hg, HM⟩ := hrel
    by_cases hlt : m < n
    · obtain ⟨b, rfl, hb1, hb2, he⟩ := HR.out (by omega)
      have HE := Aside0.mk (transE_mk HM.out (he m hlt))
      clear he
      have hcap : k + m * 2199028498435 + 2199028498435 ≤ 9000000000000000000 := by omega
      obtain ⟨⟨f0, x0, d0⟩, ⟨f1, x1, d1⟩, ⟨A2, n2, c2, d2, o2⟩, ⟨f3, x3, d3⟩, ⟨A4, n4, c4, d4, o4⟩⟩ := HE.out; have l2 := o2.1; have O2 := Aside0.mk o2; clear o2; have l4 := o4.1; have O4 := Aside0.mk o4; clear o4
      go_wp2_with (first
        | ((with_reducible refine gate_store (t := 3) (p := 16) rfl ?_); refine store_event (t := 3) (p := 16) (v := ?vo0) (w1 := (wr.setCell ⟨b, m * 5, none⟩ (.int .i64 (kk)))) ?hg ?ho ?hn ?hr ?_; (case ho => rfl); (case hg => rfl); (case hn => rfl); (case hr => first | (go_simp; done) | (go_simp; rfl)); intro w60 hw; have S_ := Mk.set (lo := lo) (hi := hi) hw HE.out.1 hb1 hb2; clear hw; have n_ := Aside0.mk (HM.out.trans S_); clear HM; have HM := n_; clear n_; have n_ := Aside0.mk (transE_mk S_ HE.out); clear HE; have HE := n_; clear n_ S_ f0 d0 f1 d1 d2 O2 l2 f3 d3 d4 O4 l4; obtain ⟨⟨f0, x0, d0⟩, ⟨f1, x1, d1⟩, ⟨A2, n2, c2, d2, o2⟩, ⟨f3, x3, d3⟩, ⟨A4, n4, c4, d4, o4⟩⟩ := HE.out; have l2 := o2.1; have O2 := Aside0.mk o2; clear o2; have l4 := o4.1; have O4 := Aside0.mk o4; clear o4)
        | ((with_reducible refine gate_store (t := 3) (p := 23) rfl ?_); refine store_event (t := 3) (p := 23) (v := ?vo1) (w1 := (w60.setCell ⟨b, m * 5 + 1, none⟩ (.int .i64 (kk + 1)))) ?hg ?ho ?hn ?hr ?_; (case ho => rfl); (case hg => rfl); (case hn => rfl); (case hr => first | (go_simp; done) | (go_simp; rfl)); intro w61 hw; have S_ := Mk.set (lo := lo) (hi := hi) hw HE.out.2.1 hb1 hb2; clear hw; have n_ := Aside0.mk (HM.out.trans S_); clear HM; have HM := n_; clear n_; have n_ := Aside0.mk (transE_mk S_ HE.out); clear HE; have HE := n_; clear n_ S_ f0 d0 f1 d1 d2 O2 l2 f3 d3 d4 O4 l4; obtain ⟨⟨f0, x0, d0⟩, ⟨f1, x1, d1⟩, ⟨A2, n2, c2, d2, o2⟩, ⟨f3, x3, d3⟩, ⟨A4, n4, c4, d4, o4⟩⟩ := HE.out; have l2 := o2.1; have O2 := Aside0.mk o2; clear o2; have l4 := o4.1; have O4 := Aside0.mk o4; clear o4)
        | (go_at_call 50; have _t := tok2; refine (markItem_calls (lo := lo) (hi := hi) O2.out (by omega) (by omega)).mono ?_; rintro e w62 ⟨r2, rfl, hr2, hs2, S_⟩; have ht2 : r2 ≤ kk + 1 + 1 + 2097152 := (by omega); clear hs2; clear tok2; have n_ := Aside0.mk (HM.out.trans S_); clear HM; have HM := n_; clear n_; have n_ := Aside0.mk (transE_mk S_ HE.out); clear HE; have HE := n_; clear n_ S_ f0 d0 f1 d1 d2 O2 l2 f3 d3 d4 O4 l4; obtain ⟨⟨f0, x0, d0⟩, ⟨f1, x1, d1⟩, ⟨A2, n2, c2, d2, o2⟩, ⟨f3, x3, d3⟩, ⟨A4, n4, c4, d4, o4⟩⟩ := HE.out; have l2 := o2.1; have O2 := Aside0.mk o2; clear o2; have l4 := o4.1; have O4 := Aside0.mk o4; clear o4)
        | ((with_reducible refine gate_store (t := 3) (p := 37) rfl ?_); refine store_event (t := 3) (p := 37) (v := ?vo3) (w1 := (w62.setCell ⟨b, m * 5 + 3, none⟩ (.int .i64 (r2)))) ?hg ?ho ?hn ?hr ?_; (case ho => rfl); (case hg => rfl); (case hn => rfl); (case hr => first | (go_simp; done) | (go_simp; rfl)); intro w63 hw; have S_ := Mk.set (lo := lo) (hi := hi) hw HE.out.2.2.2.1 hb1 hb2; clear hw; have n_ := Aside0.mk (HM.out.trans S_); clear HM; have HM := n_; clear n_; have n_ := Aside0.mk (transE_mk S_ HE.out); clear HE; have HE := n_; clear n_ S_ f0 d0 f1 d1 d2 O2 l2 f3 d3 d4 O4 l4; obtain ⟨⟨f0, x0, d0⟩, ⟨f1, x1, d1⟩, ⟨A2, n2, c2, d2, o2⟩, ⟨f3, x3, d3⟩, ⟨A4, n4, c4, d4, o4⟩⟩ := HE.out; have l2 := o2.1; have O2 := Aside0.mk o2; clear o2; have l4 := o4.1; have O4 := Aside0.mk o4; clear o4)
        | (go_at_call 49; have _t := tok4; refine (markStm_calls (lo := lo) (hi := hi) O4.out (by omega) (by omega)).mono ?_; rintro e w64 ⟨r4, rfl, hr4, hs4, S_⟩; have ht4 : r4 ≤ r2 + 1 + 2199026401280 := (by omega); clear hs4; clear tok4; have n_ := Aside0.mk (HM.out.trans S_); clear HM; have HM := n_; clear n_; have n_ := Aside0.mk (transE_mk S_ HE.out); clear HE; have HE := n_; clear n_ S_ f0 d0 f1 d1 d2 O2 l2 f3 d3 d4 O4 l4; obtain ⟨⟨f0, x0, d0⟩, ⟨f1, x1, d1⟩, ⟨A2, n2, c2, d2, o2⟩, ⟨f3, x3, d3⟩, ⟨A4, n4, c4, d4, o4⟩⟩ := HE.out; have l2 := o2.1; have O2 := Aside0.mk o2; clear o2; have l4 := o4.1; have O4 := Aside0.mk o4; clear o4))
      go_roundg (n - (m + 1))
      case measure => have := hg.out; omega
      case rel => exact ⟨r4, m + 1, by go_num, by go_num, by omega, by omega, by omega, ⟨by have := h2.out; omega⟩, ⟨rfl⟩, HM⟩
    · obtain rfl : m = n := by omega
      go_wp2
      go_ret
      exact ⟨kk, rfl, h2.out, h1, HM.out⟩
end Go.Proofs.Ytolcdkanebopiaa.Tree
