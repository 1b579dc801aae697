/- Proved here: what impl's numbers does: it writes the numbers that the fields spell into the cells of one block of the call's own, till a field spells none. -/
import Derived.Test.YtbdpnimfkogajaaDoorKN1
namespace Go.Proofs.YtbdpnimfkogajaaDoor.Txt
open Go.RowKit Go.Proofs.YtbdpnimfkogajaaDoorW.PrintWords Go.Proofs.YtbdpnimfkogajaaDoorW.PrintLast Go.Proofs.YtbdpnimfkogajaaDoorW.PrintMore Go.Proofs.YtbdpnimfkogajaaDoor.PFnExactParseScript
set_option linter.unusedVariables false
def blkL (cs : List Int) : Obj := .cells (cs.map (Value.int .i64)).toArray 31 (0, 0)
theorem blkL_cell {w : World} {b : Nat} {cs : List Int} (h : w.heap[b]? = some (blkL cs)) {i : Nat} (hi : i < cs.length) : w.cell? ⟨b, i, none⟩ = some (.int .i64 cs[i]) := by
  simp [World.cell?, h, blkL, hi]
theorem blkL_frozen {w : World} {b : Nat} {cs : List Int} (h : w.heap[b]? = some (blkL cs)) (i : Nat) : w.frozen? ⟨b, i, none⟩ = false := by
  simp [World.frozen?, h, blkL]
theorem blkL_set {w : World} {b : Nat} {cs : List Int} (h : w.heap[b]? = some (blkL cs)) (i : Nat) (v : Int) : (w.setCell ⟨b, i, none⟩ (.int .i64 v)).heap[b]? = some (blkL (cs.set i v)) := by
  simp [World.setCell, h, blkL, Array.getElem?_modify]
structure Only (b : Nat) (w w' : World) : Prop where
  os : w'.os = w.os
  tape : w'.tape = w.tape
  output : w'.output = w.output
  size : w.heap.size ≤ w'.heap.size
  same : ∀ k, k < w.heap.size → k ≠ b → w'.heap[k]? = w.heap[k]?
theorem Only.refl (b : Nat) (w : World) : Only b w w := ⟨rfl, rfl, rfl, Nat.le_refl _, fun _ _ _ => rfl⟩
theorem Only.trans {b : Nat} {u v w : World} (h : Only b u v) (k : Only b v w) : Only b u w :=
  ⟨k.os.trans h.os, k.tape.trans h.tape, k.output.trans h.output, Nat.le_trans h.size k.size, fun i hi hn => (k.same i (Nat.lt_of_lt_of_le hi h.size) hn).trans (h.same i hi hn)⟩
theorem Only.of_below {b : Nat} {w w' : World} (h : Below w.heap.size w w') : Only b w w' := ⟨h.os, h.tape, h.output, h.size, fun k hk _ => h.block k hk⟩
theorem Only.set {b : Nat} (w : World) (i : Nat) (v : Value) : Only b w (w.setCell ⟨b, i, none⟩ v) :=
  have hb := (Below.refl b w).setCell (p := ⟨b, i, none⟩) (Nat.le_refl _) v
  ⟨hb.os, hb.tape, hb.output, hb.size, fun k _ hn => Below.heap_setCell w _ _ k hn⟩
theorem Only.below {b B : Nat} {w w' : World} (h : Only b w w') (hb : B ≤ b) (hs : B ≤ w.heap.size) : Below B w w' := ⟨h.os, h.tape, h.output, h.size, fun k hk => h.same k (by omega) (by omega)⟩
theorem Only.cell {b : Nat} {w w' : World} (h : Only b w w') {a : Addr} {v : Value} (hc : w.cell? a = some v) (hn : a.block ≠ b) : w'.cell? a = some v := by
  have hl := World.block_lt_of_cell? w a hc
  have := h.same a.block hl hn
  unfold World.cell? at hc ⊢
  rw [this]; exact hc
theorem Only.errV {b : Nat} {w w' : World} (h : Only b w w') (hE : ErrV w) (h5 : 5 ≠ b) (h6 : 6 ≠ b) : ErrV w' := by
  obtain ⟨⟨e1, c1, h1⟩, e2, c2, h2⟩ := hE
  exact ⟨⟨e1, h.cell c1 h5, h1⟩, e2, h.cell c2 h6, h2⟩
def setAll (cs : List Int) : List Nat → List Int → List Int
  | i :: ix, v :: vs => setAll (cs.set i v) ix vs
  | _, _ => cs
theorem setAll_len (cs : List Int) : ∀ ix vs, (setAll cs ix vs).length = cs.length := by
  intro ix
  induction ix generalizing cs with
  | nil => intro vs; cases vs <;> rfl
  | cons i ix ih =>
    intro vs
    cases vs with
    | nil => rfl
    | cons v vs => rw [setAll, ih]; simp
theorem setAll_snoc (cs : List Int) : ∀ (ix : List Nat) (vs : List Int) (i : Nat) (v : Int), ix.length = vs.length → setAll cs (ix ++ [i]) (vs ++ [v]) = (setAll cs ix vs).set i v := by
  intro ix
  induction ix generalizing cs with
  | nil => intro vs i v h; cases vs with
    | nil => rfl
    | cons _ _ => simp at h
  | cons j ix ih =>
    intro vs i v h
    cases vs with
    | nil => simp at h
    | cons u vs => simp only [List.cons_append, setAll]; exact ih _ vs i v (by simpa using h)
theorem str_at {w : World} {A : Option Addr} {l : List ByteArray} {k : Nat} {x : ByteArray} (hr : Kd.C Kd.string w A l.length l) (h : l[k]? = some x) : ∃ ad, A = some ad ∧ w.cell? (ad.add k) = some (.string x) := by
  have hlt := (List.getElem?_eq_some_iff.1 h).1
  obtain ⟨ad, e, hc⟩ := hr.2.2 (by omega)
  obtain ⟨c, _, hk, hcc⟩ := hc k x h
  have hk' : c = [.string x] := hk
  subst hk'
  have := hcc 0 _ rfl
  exact ⟨ad, e, by rw [show (Kd.string).sz = 1 from rfl, Nat.mul_one, Nat.add_zero] at this; exact this⟩
theorem not_t {b : Bool} (h : (!b) = true) : b = false := by cases b <;> simp_all
theorem not_f {b : Bool} (h : (!b) = false) : b = true := by cases b <;> simp_all
theorem take_more {ix : List Nat} {m i : Nat} (h : ix[m]? = some i) : ix.take (m + 1) = ix.take m ++ [i] := by
  rw [List.take_add_one, h]; rfl
theorem more_vals {l : List ByteArray} {vs : List Int} {m : Nat} {x : ByteArray} {v : Int} (hV : ∀ (k : Nat) (v : Int), vs[k]? = some v → ∃ s, l[k]? = some s ∧ NumOK s v) (hl : vs.length = m) (hx : l[m]? = some x) (hn : NumOK x v) : ∀ (k : Nat) (u : Int), (vs ++ [v])[k]? = some u → ∃ s, l[k]? = some s ∧ NumOK s u := by
  intro k u hu
  rcases Nat.lt_or_ge k vs.length with h | h
  · rw [List.getElem?_append_left h] at hu
    exact hV k u hu
  · rw [List.getElem?_append_right h] at hu
    have hk : k - vs.length = 0 := by
      have := (List.getElem?_eq_some_iff.1 hu).1
      simp at this
      omega
    rw [hk] at hu
    simp at hu
    subst hu
    obtain rfl : k = m := by omega
    exact ⟨x, hx, hn⟩
set_option maxHeartbeats 800000 in
set_option maxRecDepth 100000 in
theorem numbers_calls {w : World} {A : Option Addr} {c b p n : Nat} {l : List ByteArray} {ix : List Nat} {cs : List Int} (hE0 : ErrV w) (hr0 : Kd.C Kd.string w A l.length l) (hc : l.length ≤ c) (hA : ∀ ad, A = some ad → ad.block ≠ b)
    (hp0 : ∀ (k i : Nat), ix[k]? = some i → w.cell? ⟨p, k, none⟩ = some (.pointer (some ⟨b, i, none⟩))) (hpb : p ≠ b) (hb0 : w.heap[b]? = some (blkL cs)) (hix0 : ∀ i ∈ ix, i < cs.length) (hnx : n = ix.length) (hn : n ≤ 4) (h5 : 5 ≠ b) (h6 : 6 ≠ b) (hsz0 : ∀ x ∈ l, x.size ≤ 281474976710656) :
    Calls Tryd.prog 15 #[.slice A l.length c, .slice (some ⟨p, 0, none⟩) n n] w fun e w' => ∃ ok, e = .returned (.bool ok) ∧ Only b w w' ∧ (∃ cs', cs'.length = cs.length ∧ w'.heap[b]? = some (blkL cs')) ∧
      (ok = true → ∃ vs : List Int, vs.length = n ∧ n ≤ l.length ∧ (∀ (k : Nat) (v : Int), vs[k]? = some v → ∃ s, l[k]? = some s ∧ NumOK s v) ∧ w'.heap[b]? = some (blkL (setAll cs ix vs))) ∧
      (ok = false → l.length < n ∨ ∃ (k : Nat) (s : ByteArray), k < n ∧ l[k]? = some s ∧ ∀ x, ¬ NumOK s x) := by
  have hE := Aside0.mk hE0
  have hR := Aside0.mk hr0
  have hP := Aside0.mk hp0
  have hb := Aside0.mk hb0
  have hix := Aside0.mk hix0
  have hsz := Aside0.mk hsz0
  have hNX := Aside0.mk hnx
  have hAb := Aside0.mk hA
  have hlm := hr0.2.1
  clear hE0 hr0 hp0 hb0 hix0 hsz0 hnx hA
  have hu28 := Tryd.underlying28
  have hu59 := Tryd.underlying59
  by_cases hlen : (l.length : Int) < n
  · go_enter Tryd.func15, Tryd.ntmps15
    go_wp2_with fail
    go_ret
    exact ⟨false, rfl, Only.refl _ _, ⟨cs, rfl, hb.out⟩, fun h => absurd h (by decide), fun _ => .inl (by omega)⟩
  · go_enter Tryd.func15, Tryd.ntmps15
    go_wp2_with fail
    go_loopg [16] n (fun g v wr => ∃ (m : Nat) (vs : List Int), v = .int .i64 m ∧ m ≤ n ∧ Aside0 (vs.length = m) ∧ Aside0 (g = n - m) ∧ Aside0 (Only b w wr) ∧ Aside0 (wr.heap[b]? = some (blkL (setAll cs (ix.take m) vs))) ∧ Aside0 (∀ (k : Nat) (v : Int), vs[k]? = some v → ∃ s, l[k]? = some s ∧ NumOK s v))
    case atStart => exact ⟨0, [], rfl, Nat.zero_le _, ⟨rfl⟩, ⟨rfl⟩, ⟨Only.refl _ _⟩, ⟨by cases ix <;> exact hb.out⟩, ⟨fun k v h => by simp at h⟩⟩
    case round =>
      obtain ⟨m, vs, rfl, hm, hvl, hg, hO, hB, hV⟩ := hrel
      by_cases hlt : m < n
      · obtain ⟨x, hx⟩ : ∃ x, l[m]? = some x := ⟨_, List.getElem?_eq_getElem (by omega)⟩
        obtain ⟨i, hi⟩ : ∃ i, ix[m]? = some i := ⟨_, List.getElem?_eq_getElem (by rw [← hNX.out]; exact hlt)⟩
        obtain ⟨ad, e1, hcx⟩ := str_at hR.out hx
        cases e1
        have hcx' := hO.out.cell hcx (by have := hAb.out ad rfl; unfold Addr.add; split <;> exact this)
        have hcp' := hO.out.cell (hP.out m i hi) hpb
        have hxs := hsz.out x (List.mem_of_getElem? hx)
        have hil := hix.out i (List.mem_of_getElem? hi)
        have HX := Aside0.mk hx
        have HI := Aside0.mk hi
        have HEr := Aside0.mk (hO.out.errV hE.out h5 h6)
        clear hcx hx hi
        go_wp2_with (first
          | (go_at_call 27; refine (number_calls x wr hxs HEr.out).mono ?_; rintro e w2 ⟨v, ok, rfl, hok, hno, hB2⟩; have HOK := Aside0.mk hok; have HNO := Aside0.mk hno; have HO2 := Aside0.mk (hO.out.trans (Only.of_below hB2)); have HB3 := Aside0.mk ((hB2.block _ (blk_lt hB.out)).trans hB.out); have hcb := blkL_cell HB3.out (i := i) (by rw [setAll_len]; exact hil); have hfb := blkL_frozen HB3.out i; clear hok hno hB2))
        · have hf : ok = false := not_t (by assumption)
          go_ret
          exact ⟨false, rfl, HO2.out, ⟨_, setAll_len _ _ _, HB3.out⟩, fun h => absurd h (by decide), fun _ => .inr ⟨m, x, hlt, HX.out, HNO.out hf⟩⟩
        · have ht : ok = true := not_f (by assumption)
          have HV2 := Aside0.mk (more_vals hV.out hvl.out HX.out (HOK.out ht))
          have HB4 := Aside0.mk (show (w2.setCell ⟨b, i, none⟩ (.int .i64 v)).heap[b]? = some (blkL (setAll cs (ix.take (m + 1)) (vs ++ [v]))) from by
            rw [take_more HI.out, setAll_snoc _ _ _ _ _ (by rw [hvl.out, List.length_take, ← hNX.out]; omega)]
            exact blkL_set HB3.out i v)
          go_roundg (n - (m + 1))
          case measure => have := hg.out; omega
          case rel => exact ⟨m + 1, vs ++ [v], by go_num, by omega, ⟨by rw [List.length_append, hvl.out]; rfl⟩, ⟨rfl⟩, ⟨HO2.out.trans (Only.set w2 i (.int .i64 v))⟩, HB4, HV2⟩
      · obtain rfl : m = n := by omega
        go_wp2_with fail
        go_ret
        refine ⟨true, rfl, hO.out, ⟨_, setAll_len _ _ _, hB.out⟩, fun _ => ⟨vs, hvl.out, by omega, hV.out, ?_⟩, fun h => absurd h (by decide)⟩
        have := hB.out
        rw [hNX.out, List.take_length] at this
        exact this
end Go.Proofs.YtbdpnimfkogajaaDoor.Txt
