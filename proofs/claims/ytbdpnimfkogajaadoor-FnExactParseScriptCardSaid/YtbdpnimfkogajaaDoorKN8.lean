/- Proved here: the law of a range over strings.SplitSeq's iterator, whose own box the loop leaves alone. Conditions: they stand in the statement. -/
import Derived.Test.YtbdpnimfkogajaaDoorKN7
import Derived.RangeFuncRecord
namespace Go.Proofs.YtbdpnimfkogajaaDoor.Txt
open Go.RowKit Go.Proofs.YtbdpnimfkogajaaDoorW.PrintWords Go.Proofs.YtbdpnimfkogajaaDoorW.PrintLast Go.Proofs.YtbdpnimfkogajaaDoorW.PrintMore Go.Proofs.YtbdpnimfkogajaaDoor.PFnExactParseScript
set_option linter.unusedVariables false
attribute [local go_sem] Oper.semAt_some
theorem Chg.putObj {S : Nat → Prop} (W : World) (l : Nat) (o : Obj) (hl : S l) : Chg S W (W.putObj l o) :=
  ⟨rfl, rfl, rfl, by simp, fun k _ hn => World.putObj_heap_other (fun e => hn (e ▸ hl))⟩
theorem Chg.block {S : Nat → Prop} {w w' : World} (h : Chg S w w') {k : Nat} {o : Obj} (hk : w.heap[k]? = some o) (hn : ¬ S k) : w'.heap[k]? = some o := (h.same k (blk_lt hk) hn).trans hk
def seqPost (Sx : Nat → Prop) (I : List ByteArray → World → Prop) (E : World → Prop) (xs : List ByteArray) (W : World) : Exit → Act → World → Prop
  | .normal, _, W' => Chg Sx W W' ∧ I xs W'
  | .ret, _, W' => Chg Sx W W' ∧ E W'
  | _, _, _ => False
theorem range_seq {n : Nat} {g : Operand} {p0 : Tmp} {assign body : Code} {Q : Exit → Act → World → Prop} {a : Act} {w : World} {sB pB vB : Nat} {text : ByteArray} {c : UInt8} (hmax : text.size ≤ 1000000)
    (hg : a.eval g = .func (.func 38) #[] #[.pointer (some ⟨pB, 0, none⟩), .pointer (some ⟨sB, 0, none⟩), .pointer (some ⟨vB, 0, none⟩)])
    (hsp : sB ≠ pB) (hsv : sB ≠ vB) {Sx : Nat → Prop} (hs : ¬ Sx sB) (hp : ¬ Sx pB) (hv : ¬ Sx vB) (hD : ¬ Sx w.heap.size) (hL : ¬ Sx (w.heap.size + 1))
    (hcs : w.cell? ⟨sB, 0, none⟩ = some (.string text)) (hfs : w.frozen? ⟨sB, 0, none⟩ = false) (hcp : w.cell? ⟨pB, 0, none⟩ = some (.string ⟨#[c]⟩)) (hcv : w.cell? ⟨vB, 0, none⟩ = some (.int .i64 0))
    (I : List ByteArray → World → Prop) (E : World → Prop) (hI : ∀ pre W W', I pre W → Chg (fun k => k = sB ∨ k = w.heap.size + 1) W W' → I pre W') (hE : ∀ W W', E W → Chg (fun k => k = w.heap.size + 1) W W' → E W')
    (h0 : ∀ W, Chg (fun _ => False) w W → W.heap.size = w.heap.size + 2 → I [] W) (a₁ : ByteArray → Act)
    (hassign : ∀ (l : Nat) (x : ByteArray) (W : World) (K : Act → World → Prop), K (a₁ x) W →
      assign.wpIn (Fence.wide.inRound l) (n - 1 - 1) Tryd.prog (Exit.then K (fun _ _ _ => False)) { tmps := a.tmps.setIfInBounds p0 (.string x), defers := [] } W)
    (hbody : ∀ (l : Nat) (pre : List ByteArray) (x : ByteArray) (post : List ByteArray) (W : World), I pre W → pre ++ x :: post = pieces text c (text.size + 1) 0 0 → w.heap.size + 2 ≤ W.heap.size →
      body.wpIn (Fence.wide.inRound l) (n - 1 - 1) Tryd.prog (seqPost Sx I E (pre ++ [x]) W) (a₁ x) W)
    (hdone : ∀ (W : World), I (pieces text c (text.size + 1) 0 0) W → W.heap[w.heap.size]? = some (.deferred (some [])) → Q .normal { a with defers := { target := .collected w.heap.size, args := #[] } :: a.defers } W)
    (hstop : ∀ (W : World), E W → W.heap[w.heap.size]? = some (.deferred (some [])) → Code.ret.wpIn Fence.wide n Tryd.prog Q { a with defers := { target := .collected w.heap.size, args := #[] } :: a.defers } W) :
    (Code.rangeFunc g #[p0] assign body).wpIn Fence.wide n Tryd.prog Q a w := by
  refine wpIn_rangeFunc ?_
  intro fn hfn
  obtain ⟨rec, hrec⟩ : ∃ rec : LoopState → Option Code → Loop, rec = fun st pe => { state := st, pending := pe, fn, tmps := a.tmps, params := #[p0], assign, body, defers := w.heap.size } := ⟨_, rfl⟩
  obtain ⟨W1, hW1⟩ : ∃ W1, (w.alloc (.deferred (some []))).alloc (.loop (rec .ready none)) = W1 := ⟨_, rfl⟩
  have hL1 : W1.heap[w.heap.size + 1]? = some (.loop (rec .ready none)) := by
    rw [← hW1]; have := World.alloc_heap_new (w.alloc (.deferred (some []))) (.loop (rec .ready none)); rwa [World.size_alloc] at this
  have hK1 : W1.heap[w.heap.size]? = some (.deferred (some [])) := by
    rw [← hW1]; exact (Below.heap_alloc _ _ _ (by simp)).trans (World.alloc_heap_new w _)
  have hB1 : Below w.heap.size w W1 := by
    rw [← hW1]; exact ((Below.refl _ w).alloc (Nat.le_refl _) _).alloc (by simp) _
  have hz1 : W1.heap.size = w.heap.size + 2 := by rw [← hW1]; simp
  have hI1 : I [] W1 := h0 W1 (Chg.of_below hB1) hz1
  have hls : sB < w.heap.size := World.block_lt_of_cell? _ _ hcs
  refine ⟨w.heap.size + 1, [{ target := .collected w.heap.size, args := #[] }], W1, { target := .fn (.func 38) #[.pointer (some ⟨pB, 0, none⟩), .pointer (some ⟨sB, 0, none⟩), .pointer (some ⟨vB, 0, none⟩)], args := #[.func (.yield (w.heap.size + 1)) #[] #[]] }, W1, 38,
    #[.func (.yield (w.heap.size + 1)) #[] #[]] ++ #[.pointer (some ⟨pB, 0, none⟩), .pointer (some ⟨sB, 0, none⟩), .pointer (some ⟨vB, 0, none⟩)], W1, ?_, ?_, ?_, ?_, fun h => absurd h (by decide), ?_⟩
  · rw [← hW1, hrec]; exact run_enterLoop_outer _ _ _ _ _
  · simp only [resolve, hg]
    simp [go_sem]
  · intro f' hf'; trivial
  · have eg := enters_of (P := Tryd.prog) Tryd.func38 (by kernel_rfl) rfl
    simp [invoke, go_sem, eg _ _]
  · refine (seq_in (n := n - 1) (l := w.heap.size + 1) (sB := sB) (pB := pB) (vB := vB) (text := text) (c := c) hmax (Sx := fun k => Sx k ∨ k = w.heap.size + 1)
      (J := fun pre W => I pre W ∧ W.heap[w.heap.size + 1]? = some (.loop (rec .ready none)) ∧ W.heap[w.heap.size]? = some (.deferred (some [])) ∧ w.heap.size + 2 ≤ W.heap.size)
      (Jx := fun W => E W ∧ W.heap[w.heap.size + 1]? = some (.loop (rec .done (some .ret))) ∧ W.heap[w.heap.size]? = some (.deferred (some [])))
      hsp hsv (by rintro (h | h); exact hs h; omega) (by have := World.block_lt_of_cell? _ _ hcp; rintro (h | h); exact hp h; simp at this; omega) (by have := World.block_lt_of_cell? _ _ hcv; rintro (h | h); exact hv h; simp at this; omega)
      ?_ ?_ (fun _ _ => trivial) (below_cell hB1 hcs) (below_frozen hB1 hcs hfs) (below_cell hB1 hcp) (below_cell hB1 hcv) ⟨hI1, hL1, hK1, by omega⟩).mono ?_
    · -- ONE ROUND
      rintro pre x post W ⟨hi, hl, hk, hz⟩ hP
      have hlt : w.heap.size + 1 < W.heap.size := (Array.getElem?_eq_some_iff.1 hl).1
      have hy := run_yield (P := Tryd.prog) (args := #[.string x]) hl (by rw [hrec]; rfl)
      rw [hrec] at hy
      refine ⟨fn, _, assign, body, hy, roundIn_of_wpIn hfn ?_⟩
      have hfold : ((#[p0] : Array Tmp).zip (#[Value.string x] : Array Value)).foldl (fun tmps (t, a) => tmps.setIfInBounds t a) a.tmps = a.tmps.setIfInBounds p0 (.string x) := by simp
      simp only [hfold]
      refine hassign _ x W _ ?_
      refine ⟨_, run_beginRound hl (by rw [hrec]), ?_⟩
      have hl2 : (W.putObj (w.heap.size + 1) (.loop { rec .ready none with state := .busy })).heap[w.heap.size + 1]? = some (.loop { rec .ready none with state := .busy }) := World.putObj_heap_same hlt
      have hk2 : (W.putObj (w.heap.size + 1) (.loop { rec .ready none with state := .busy })).heap[w.heap.size]? = some (.deferred (some [])) := (World.putObj_heap_other (by omega)).trans hk
      have hc2 : Chg (fun k => Sx k ∨ k = w.heap.size + 1) W (W.putObj (w.heap.size + 1) (.loop { rec .ready none with state := .busy })) := Chg.putObj _ _ _ (.inr rfl)
      refine wpIn_mono (hbody _ pre x post _ (hI _ _ _ hi (Chg.putObj _ _ _ (.inr rfl))) hP (by simpa using hz)) ?_
      rintro e a3 W3 hp3
      cases e with
      | normal =>
        obtain ⟨hk3, hi3⟩ := hp3
        have hl3 := hk3.block hl2 hL
        have hd3 := hk3.block hk2 hD
        have hend := run_endRound (P := Tryd.prog) none hl3
        rw [hrec] at hend
        refine ⟨_, _, hend, .inl ⟨rfl, ⟨hI _ _ _ hi3 (Chg.putObj _ _ _ (.inr rfl)), ?_, (World.putObj_heap_other (by omega)).trans hd3, ?_⟩, hc2.trans ((hk3.mono (fun k hk => .inl hk)).trans (Chg.putObj _ _ _ (.inr rfl)))⟩⟩
        · rw [hrec]; exact World.putObj_heap_same (Array.getElem?_eq_some_iff.1 hl3).1
        · have := hk3.size; simp at this ⊢; omega
      | ret =>
        obtain ⟨hk3, hi3⟩ := hp3
        have hl3 := hk3.block hl2 hL
        have hd3 := hk3.block hk2 hD
        have hend := run_endRound (P := Tryd.prog) (some .ret) hl3
        rw [hrec] at hend
        refine ⟨_, _, hend, .inr ⟨rfl, hE _ _ hi3 (Chg.putObj _ _ _ rfl), ?_, (World.putObj_heap_other (by omega)).trans hd3⟩⟩
        rw [hrec]; exact World.putObj_heap_same (Array.getElem?_eq_some_iff.1 hl3).1
      | exit id => exact hp3.elim
      | goto t => exact hp3.elim
      | panic ch => exact hp3.elim
      | outgrown => exact hp3.elim
    · rintro pre W v ⟨hi, hl, hk, hz⟩
      have hc : Chg (fun k => k = sB ∨ k = w.heap.size + 1) W (W.setCell ⟨sB, 0, none⟩ v) := Chg.set _ _ _ (.inl rfl)
      have hc' : Chg (fun k => k = sB) W (W.setCell ⟨sB, 0, none⟩ v) := Chg.set _ _ _ rfl
      exact ⟨hI _ _ _ hi hc, hc'.block hl (by omega), hc'.block hk (by omega), Nat.le_trans hz hc.size⟩
    · -- BEHIND THE ITERATOR
      rintro e W2 ⟨⟨v, rfl⟩, (⟨hi, hl, hk, hz⟩ | ⟨hi, hl, hk⟩)⟩
      · exact ⟨none, _, by have := run_endLoop (P := Tryd.prog) hl (by rw [hrec]; simp); rw [hrec] at this; exact this, hdone _ (hI _ _ _ hi (Chg.putObj _ _ _ (.inr rfl))) ((World.putObj_heap_other (by omega)).trans hk)⟩
      · exact ⟨some .ret, _, by have := run_endLoop (P := Tryd.prog) hl (by rw [hrec]; simp); rw [hrec] at this; exact this, hstop _ (hE _ _ hi (Chg.putObj _ _ _ rfl)) ((World.putObj_heap_other (by omega)).trans hk)⟩
end Go.Proofs.YtbdpnimfkogajaaDoor.Txt
