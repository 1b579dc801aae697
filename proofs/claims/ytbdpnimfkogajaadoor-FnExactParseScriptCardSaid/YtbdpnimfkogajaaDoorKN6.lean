/- Proved here: what impl.ParseScript's closure over a kind and a reader does at the fields of a line. Conditions: they stand in the statement. -/
import Derived.Test.YtbdpnimfkogajaaDoorKN5
import Derived.Shelf.Abstract
import Derived.Deep.DeepMust
namespace Go.Proofs.YtbdpnimfkogajaaDoor.Txt
open Go.RowKit Go.Proofs.YtbdpnimfkogajaaDoorW.PrintWords Go.Proofs.YtbdpnimfkogajaaDoorW.PrintLast Go.Proofs.YtbdpnimfkogajaaDoorW.PrintMore Go.Proofs.YtbdpnimfkogajaaDoor.PFnExactParseScript
set_option linter.unusedVariables false
structure Chg (S : Nat → Prop) (w w' : World) : Prop where
  os : w'.os = w.os
  tape : w'.tape = w.tape
  output : w'.output = w.output
  size : w.heap.size ≤ w'.heap.size
  same : ∀ k, k < w.heap.size → ¬ S k → w'.heap[k]? = w.heap[k]?
theorem Chg.refl (S : Nat → Prop) (w : World) : Chg S w w := ⟨rfl, rfl, rfl, Nat.le_refl _, fun _ _ _ => rfl⟩
theorem Chg.trans {S : Nat → Prop} {u v w : World} (h : Chg S u v) (k : Chg S v w) : Chg S u w :=
  ⟨k.os.trans h.os, k.tape.trans h.tape, k.output.trans h.output, Nat.le_trans h.size k.size, fun i hi hn => (k.same i (Nat.lt_of_lt_of_le hi h.size) hn).trans (h.same i hi hn)⟩
theorem Chg.mono {S T : Nat → Prop} {w w' : World} (h : Chg S w w') (hST : ∀ k, S k → T k) : Chg T w w' := ⟨h.os, h.tape, h.output, h.size, fun k hk hn => h.same k hk (fun hs => hn (hST k hs))⟩
theorem Chg.of_below {S : Nat → Prop} {w w' : World} (h : Below w.heap.size w w') : Chg S w w' := ⟨h.os, h.tape, h.output, h.size, fun k hk _ => h.block k hk⟩
theorem Chg.of_only {S : Nat → Prop} {b : Nat} {w w' : World} (h : Only b w w') (hb : S b) : Chg S w w' := ⟨h.os, h.tape, h.output, h.size, fun k hk hn => h.same k hk (fun e => hn (e ▸ hb))⟩
theorem Chg.of_grown {S : Nat → Prop} {w w' : World} {row : Option Nat} (h : w.grownBy w' row) (hr : ∀ k, row = some k → S k) : Chg S w w' := ⟨h.os, h.tape, h.output, h.size, fun k hk hn => h.block k hk (fun e => hn (hr k e.symm))⟩
theorem Chg.set {S : Nat → Prop} (w : World) (p : Addr) (v : Value) (hb : S p.block) : Chg S w (w.setCell p v) :=
  have hB := (Below.refl p.block w).setCell (p := p) (Nat.le_refl _) v
  ⟨hB.os, hB.tape, hB.output, hB.size, fun k _ hn => Below.heap_setCell w _ _ k (fun e => hn (e ▸ hb))⟩
theorem Chg.cell {S : Nat → Prop} {w w' : World} (h : Chg S w w') {a : Addr} {v : Value} (hc : w.cell? a = some v) (hn : ¬ S a.block) : w'.cell? a = some v := by
  have hl := World.block_lt_of_cell? w a hc
  have := h.same a.block hl hn
  unfold World.cell? at hc ⊢
  rw [this]; exact hc
theorem Chg.errV {S : Nat → Prop} {w w' : World} (h : Chg S w w') (hE : ErrV w) (h5 : ¬ S 5) (h6 : ¬ S 6) : ErrV w' := by
  obtain ⟨⟨e1, c1, h1⟩, e2, c2, h2⟩ := hE
  exact ⟨⟨e1, h.cell c1 h5, h1⟩, e2, h.cell c2 h6, h2⟩
theorem below_cell {w w' : World} (h : Below w.heap.size w w') {a : Addr} {v : Value} (hc : w.cell? a = some v) : w'.cell? a = some v :=
  (Chg.of_below (S := fun _ => False) h).cell hc (fun e => e)
theorem rows_step {w w1 : World} {base : Nat} {v : Value} {xs : List S31} (h : Kd.R k31 31 w base (fun _ => True) v xs) (hm : ∀ k, v.ownBlock = some k → w1.heap[k]? = w.heap[k]?) : Kd.R k31 31 w1 base (fun _ => True) v xs := by
  have h1 : Kd.R k31 31 w base (fun k => v.ownBlock = some k) v xs := by
    refine Kd.R_flat (fun {ok1 ok2 x cs} hM => ?_) h (fun k hk _ => hk)
    rw [k31_openM hM]
    exact k31_mkM w base ok2 x
  exact Kd.R_mono (Kd.R_move h1 hm) (fun _ _ => trivial)
theorem rows_set {w : World} {n1 ob : Nat} {v : Value} {xs : List S31} (h : Kd.R k31 31 w n1 (fun _ => True) v xs) (hob : ob < n1) (u : Value) : Kd.R k31 31 (w.setCell ⟨ob, 0, none⟩ u) n1 (fun _ => True) v xs :=
  rows_step h (fun k hk => Below.heap_setCell w _ u k (by have := Kd.R_base h k hk; simp; omega))
def itemOf (cs : List Int) : S31 := ⟨cs.getD 0 0, cs.getD 1 0, cs.getD 2 0, cs.getD 3 0⟩
def Reads (g : Nat) (k : Int) (I : List ByteArray → List Int → Prop) : Prop :=
  ∀ {w : World} {A : Option Addr} {c b : Nat} {l : List ByteArray}, ErrV w → Kd.C Kd.string w A l.length l → l.length ≤ c → (∀ ad, A = some ad → ad.block ≠ b) →
    w.heap[b]? = some (blkL [k, 0, 0, 0]) → 5 ≠ b → 6 ≠ b → (∀ x ∈ l, x.size ≤ 281474976710656) →
    Calls Tryd.prog g #[.pointer (some ⟨b, 0, none⟩), .slice A l.length c] w fun e w' => ReadEnds b (I l) w e w'
set_option maxHeartbeats 800000 in
set_option maxRecDepth 100000 in
theorem add_calls {w : World} {A : Option Addr} {c kb rb ob g n1 : Nat} {l : List ByteArray} {k : Int} {I : List ByteArray → List Int → Prop} {v : Value} {xs : List S31}
    (hg : Enters Tryd.prog g) (hread : Reads g k I) (hE0 : ErrV w) (hr0 : Kd.C Kd.string w A l.length l) (hc : l.length ≤ c) (hsz0 : ∀ x ∈ l, x.size ≤ 281474976710656)
    (hk0 : w.cell? ⟨kb, 0, none⟩ = some (.int .i64 k)) (hrd0 : w.cell? ⟨rb, 0, none⟩ = some (.func (.func g) #[] #[])) (ho0 : w.cell? ⟨ob, 0, none⟩ = some v) (hof : w.frozen? ⟨ob, 0, none⟩ = false)
    (hn1 : n1 ≤ w.heap.size) (h6 : 6 < w.heap.size) (hob : ob < n1) (ho5 : 6 < ob) (hR : Kd.R k31 31 w n1 (fun _ => True) v xs) (hx : xs.length ≤ 1000000) (hA : ∀ ad, A = some ad → ad.block < w.heap.size) :
    Calls Tryd.prog 12 #[.slice A l.length c, .pointer (some ⟨kb, 0, none⟩), .pointer (some ⟨rb, 0, none⟩), .pointer (some ⟨ob, 0, none⟩)] w fun e w' =>
      ∃ ok cs v', e = .returned (.bool (ok && decide (xs.length < 4000))) ∧ (ok = true → I l cs) ∧ (ok = false → ∀ cs, ¬ I l cs) ∧ w'.cell? ⟨ob, 0, none⟩ = some v' ∧ w'.frozen? ⟨ob, 0, none⟩ = false ∧
        Kd.R k31 31 w' n1 (fun _ => True) v' (xs ++ [itemOf cs]) ∧ Chg (fun k => k = ob ∨ n1 ≤ k) w w' := by
  have hu28 := Tryd.underlying28
  have hu31 := Tryd.underlying31
  go_enter Tryd.func12, Tryd.ntmps12
  have hB1 := al w (blkL [k, 0, 0, 0])
  have hrd1 : (w.alloc (blkL [k, 0, 0, 0])).cell? ⟨rb, 0, none⟩ = some (.func (.func g) #[] #[]) := below_cell hB1 hrd0
  have hb1 : (w.alloc (blkL [k, 0, 0, 0])).heap[w.heap.size]? = some (blkL [k, 0, 0, 0]) := by show (w.heap.push _)[w.heap.size]? = _; simp
  have HRD := Aside0.mk (hread (hE0.below hB1) (Kd.C_alloc hr0 _) hc (fun ad e => Nat.ne_of_lt (hA ad e)) hb1 (by omega) (by omega) hsz0)
  have hge : ∀ args w, (callFunc g args).run Tryd.prog w = .ok (.enter g args) w := hg
  have HRS := Aside0.mk hR
  clear hread hb1 hsz0 hA hr0 hE0 hR
  simp only [blkL, List.map_cons, List.map_nil] at hrd1
  go_wp2_with fail
  refine HRD.out.mono ?_
  rintro e w2 ⟨ok, cs, rfl, hO, hl4, hb2, hyes, hno⟩
  have HC := Aside0.mk ((Chg.of_below (S := fun k => k = w.heap.size) hB1).trans (Chg.of_only hO rfl))
  have ho2 := HC.out.cell ho0 (by show ¬ ob = w.heap.size; omega)
  have hof2 : w2.frozen? ⟨ob, 0, none⟩ = false := (World.frozen?_of_block (HC.out.same ob (by omega) (by show ¬ ob = w.heap.size; omega))).trans hof
  have HRS2 := Aside0.mk (rows_step HRS.out (w1 := w2) (fun j hj => HC.out.same j (Kd.R_lt HRS.out j hj) (Nat.ne_of_lt (Kd.R_lt HRS.out j hj))))
  have hsz2 := HC.out.size
  obtain ⟨c0, c1, c2, c3, rfl⟩ : ∃ c0 c1 c2 c3, cs = [c0, c1, c2, c3] := by
    match cs, hl4 with
    | [a, b, c, d], _ => exact ⟨a, b, c, d, rfl⟩
  have hq0 := blkL_cell hb2 (i := 0) (by simp)
  have hq1 := blkL_cell hb2 (i := 1) (by simp)
  have hq2 := blkL_cell hb2 (i := 2) (by simp)
  have hq3 := blkL_cell hb2 (i := 3) (by simp)
  simp only [List.getElem_cons_succ, List.getElem_cons_zero] at hq0 hq1 hq2 hq3
  have HY := Aside0.mk hyes
  have HN := Aside0.mk hno
  clear hyes hno hO hl4 HRS HRD hB1
  obtain ⟨Ao, co, rfl⟩ : ∃ Ao co, v = .slice Ao xs.length co := Kd.R_slice HRS2.out
  have HCC := Aside0.mk (HC.out.mono (T := fun j => j = ob ∨ n1 ≤ j) (fun j hj => by omega))
  clear HC
  cases ok with
  | false =>
    go_wp2_with (first | (at_builtin; go_must (refine Kd.R_append k31 (w0 := w2) n1 rfl _ _ 22 31 (.agg #[(.int .i64 0), (.int .i64 0), (.int .i64 0), (.int .i64 0)]) 32 rfl Tryd.underlying22 info31 rfl (by decide) (by omega) (.slice Ao xs.length co) xs (itemOf [c0, c1, c2, c3]) [.int .i64 c0, .int .i64 c1, .int .i64 c2, .int .i64 c3] (fun _ => True) (fun _ => False) rfl rfl (k31_mkM _ _ _ (itemOf [c0, c1, c2, c3])) (fun _ h => h.elim) (fun _ _ => trivial) HRS2.out (Below.refl _ _) (by omega) (by omega) ?_; intro v1 w3 hR3 hB3 hG3 hat3; obtain ⟨A3, k3, rfl⟩ := Kd.R_slice hR3; have HR3 := Aside0.mk hR3; have HC3 := Aside0.mk (HCC.out.trans (Chg.of_grown hG3 (fun j hj => .inr (Kd.R_base HRS2.out j hj)))); have ho3 := (hB3.cell (p := ⟨ob, 0, none⟩) hob).trans ho2; have hof3 := (hB3.frozen (p := ⟨ob, 0, none⟩) hob).trans hof2; clear hat3 hR3 hG3 HRS2 hB3)))
    go_ret
    exact ⟨false, [c0, c1, c2, c3], _, rfl, fun h => absurd h (by decide), fun _ => HN.out trivial, World.cell?_setCell_same' _ _ _ (by rw [ho3]; rfl), by rw [World.frozen?_setCell]; exact hof3, by have := rows_set HR3.out hob (.slice A3 (xs.length + 1) k3); simpa using this, HC3.out.trans (Chg.set _ _ _ (.inl rfl))⟩
  | true =>
    by_cases h4 : (xs.length : Int) < 4000
    · go_wp2_with (first | (at_builtin; go_must (refine Kd.R_append k31 (w0 := w2) n1 rfl _ _ 22 31 (.agg #[(.int .i64 0), (.int .i64 0), (.int .i64 0), (.int .i64 0)]) 32 rfl Tryd.underlying22 info31 rfl (by decide) (by omega) (.slice Ao xs.length co) xs (itemOf [c0, c1, c2, c3]) [.int .i64 c0, .int .i64 c1, .int .i64 c2, .int .i64 c3] (fun _ => True) (fun _ => False) rfl rfl (k31_mkM _ _ _ (itemOf [c0, c1, c2, c3])) (fun _ h => h.elim) (fun _ _ => trivial) HRS2.out (Below.refl _ _) (by omega) (by omega) ?_; intro v1 w3 hR3 hB3 hG3 hat3; obtain ⟨A3, k3, rfl⟩ := Kd.R_slice hR3; have HR3 := Aside0.mk hR3; have HC3 := Aside0.mk (HCC.out.trans (Chg.of_grown hG3 (fun j hj => .inr (Kd.R_base HRS2.out j hj)))); have ho3 := (hB3.cell (p := ⟨ob, 0, none⟩) hob).trans ho2; have hof3 := (hB3.frozen (p := ⟨ob, 0, none⟩) hob).trans hof2; clear hat3 hR3 hG3 HRS2 hB3)))
      go_ret
      exact ⟨true, [c0, c1, c2, c3], _, by simp; omega, fun _ => HY.out trivial, fun h => absurd h (by decide), World.cell?_setCell_same' _ _ _ (by rw [ho3]; rfl), by rw [World.frozen?_setCell]; exact hof3, by have := rows_set HR3.out hob (.slice A3 (xs.length + 1) k3); simpa using this, HC3.out.trans (Chg.set _ _ _ (.inl rfl))⟩
    · go_wp2_with (first | (at_builtin; go_must (refine Kd.R_append k31 (w0 := w2) n1 rfl _ _ 22 31 (.agg #[(.int .i64 0), (.int .i64 0), (.int .i64 0), (.int .i64 0)]) 32 rfl Tryd.underlying22 info31 rfl (by decide) (by omega) (.slice Ao xs.length co) xs (itemOf [c0, c1, c2, c3]) [.int .i64 c0, .int .i64 c1, .int .i64 c2, .int .i64 c3] (fun _ => True) (fun _ => False) rfl rfl (k31_mkM _ _ _ (itemOf [c0, c1, c2, c3])) (fun _ h => h.elim) (fun _ _ => trivial) HRS2.out (Below.refl _ _) (by omega) (by omega) ?_; intro v1 w3 hR3 hB3 hG3 hat3; obtain ⟨A3, k3, rfl⟩ := Kd.R_slice hR3; have HR3 := Aside0.mk hR3; have HC3 := Aside0.mk (HCC.out.trans (Chg.of_grown hG3 (fun j hj => .inr (Kd.R_base HRS2.out j hj)))); have ho3 := (hB3.cell (p := ⟨ob, 0, none⟩) hob).trans ho2; have hof3 := (hB3.frozen (p := ⟨ob, 0, none⟩) hob).trans hof2; clear hat3 hR3 hG3 HRS2 hB3)))
      go_ret
      exact ⟨true, [c0, c1, c2, c3], _, by simp; omega, fun _ => HY.out trivial, fun h => absurd h (by decide), World.cell?_setCell_same' _ _ _ (by rw [ho3]; rfl), by rw [World.frozen?_setCell]; exact hof3, by have := rows_set HR3.out hob (.slice A3 (xs.length + 1) k3); simpa using this, HC3.out.trans (Chg.set _ _ _ (.inl rfl))⟩
end Go.Proofs.YtbdpnimfkogajaaDoor.Txt
