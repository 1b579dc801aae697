/- Proved here: what impl's ParseScript gives. Conditions: they stand in the statement (the package variables as laid). -/
import Derived.Test.YtbdpnimfkogajaaDoorKN13
import Derived.Carry
namespace Go.Proofs.YtbdpnimfkogajaaDoor.Txt
open Go.RowKit Go.Proofs.YtbdpnimfkogajaaDoorW.PrintWords Go.Proofs.YtbdpnimfkogajaaDoorW.PrintLast Go.Proofs.YtbdpnimfkogajaaDoorW.PrintMore Go.Proofs.YtbdpnimfkogajaaDoor.PFnExactParseScript
set_option linter.unusedVariables false
def Says (text : ByteArray) (xs : List S31) (line : Int) : Prop :=
  (30000 < text.size ∧ xs = [] ∧ line = -1) ∨ (text.size ≤ 30000 ∧ ((Runs [] (pieces text 10 (text.size + 1) 0 0) xs ∧ line = 0) ∨ (xs = [] ∧ BadAt (pieces text 10 (text.size + 1) 0 0) line)))
def ParseEnds (text : ByteArray) (w : World) (e : Ending) (w' : World) : Prop :=
  ∃ v xs line, e = .returned (.tuple #[v, .int .i64 line]) ∧ Kd.R k31 31 w' w.heap.size (fun _ => True) v xs ∧ Below w.heap.size w w' ∧ Says text xs line
def TypeV (w : World) : Prop := w.cell? ⟨1, 0, none⟩ = some (.iface 87 (.agg #[.pointer (some ⟨10, 39, none⟩)]))
structure MkI (w : World) (es : Array MapEntry) (clock : Nat) (W : World) : Prop where
  below : Below w.heap.size w W
  out : W.cell? ⟨w.heap.size, 0, none⟩ = some (.slice none 0 0)
  outf : W.frozen? ⟨w.heap.size, 0, none⟩ = false
  map : W.heap[w.heap.size + 1]? = some (.map es clock)
theorem MkI.call {w W W1 : World} {es : Array MapEntry} {clock : Nat} (h : MkI w es clock W) (hB : Below W.heap.size W W1) : MkI w es clock W1 :=
  ⟨h.below.trans (hB.mono h.below.size), below_cell hB h.out, below_frozen hB h.out h.outf, (hB.block _ (blk_lt h.map)).trans h.map⟩
theorem MkI.put {w W : World} {es es2 : Array MapEntry} {clock c2 : Nat} (h : MkI w es clock W) : MkI w es2 c2 (W.putObj (w.heap.size + 1) (.map es2 c2)) := by
  have hc : Chg (fun k => k = w.heap.size + 1) W (W.putObj (w.heap.size + 1) (.map es2 c2)) := Chg.putObj _ _ _ rfl
  exact ⟨⟨hc.os.trans h.below.os, hc.tape.trans h.below.tape, hc.output.trans h.below.output, Nat.le_trans h.below.size hc.size, fun k hk => (hc.same k (Nat.lt_of_lt_of_le hk h.below.size) (by omega)).trans (h.below.block k hk)⟩,
    hc.cell h.out (by simp), hc.frozen h.out h.outf (by simp), World.putObj_heap_same (blk_lt h.map)⟩
theorem RdAt.wide {W : World} {lo hi lo' hi' ob g : Nat} {k : Int} {v : Value} (h : RdAt W lo hi ob g k v) (h1 : lo' ≤ lo) (h2 : hi ≤ hi') : RdAt W lo' hi' ob g k v := by
  obtain ⟨kb, rb, a, b, c, d, hv, hk, hr⟩ := h
  exact ⟨kb, rb, by omega, by omega, by omega, by omega, hv, hk, hr⟩
theorem RdAt.below {W W' : World} {lo hi ob g : Nat} {k : Int} {v : Value} (h : RdAt W lo hi ob g k v) (hB : Below W.heap.size W W') : RdAt W' lo hi ob g k v := h.chg (S := fun _ => False) (Chg.of_below hB) (fun _ _ _ e => e)
theorem RdAt.put {W : World} {lo hi ob g : Nat} {k : Int} {v : Value} {mb : Nat} {o : Obj} (h : RdAt W lo hi ob g k v) (hlo : mb < lo) : RdAt (W.putObj mb o) lo hi ob g k v := h.chg (S := fun k => k = mb) (Chg.putObj _ _ _ rfl) (fun k hk _ e => by omega)
set_option maxHeartbeats 2000000 in
set_option maxRecDepth 100000 in
theorem parse_calls {text : ByteArray} {te : TypeId} {pe : Value} {w : World} (hE0 : ErrV w) (hev0 : w.cell? ⟨0, 0, none⟩ = some (.iface te pe)) (hty0 : TypeV w) (h60 : 6 < w.heap.size) :
    Calls Tryd.prog 5 #[.string text] w (ParseEnds text w) := by
  have hE := Aside0.mk hE0
  have hEV := Aside0.mk hev0
  have hTY := Aside0.mk hty0
  clear hE0 hev0 hty0
  have hmf : ∀ (fn : Fn) (first cap : Array Value) (w : World), (Instr.makeFunc fn first cap).run Tryd.prog w = .ok (.func fn first cap) w := fun _ _ _ _ => rfl
  have hmm := @run_makeMap Tryd.prog
  by_cases hbig : (30000 : Int) < text.size
  · have HBIG := Aside0.mk hbig
    go_enter Tryd.func5, Tryd.ntmps5
    go_wp2_with fail
    go_ret2
    exact ⟨_, [], -1, rfl, Kd.R_nil _ _ _ _ _, Below.refl _ _, .inl ⟨by have := HBIG.out; omega, rfl, rfl⟩⟩
  · have HSM := Aside0.mk hbig
    go_enter Tryd.func5, Tryd.ntmps5
    go_wp2_with fail
    have hn := new_box w (.slice none 0 0) 22
    have hI0 : MkI w #[] 0 ((w.alloc (.cells #[.slice none 0 0] 22)).alloc (.map #[] 0)) := by
      refine ⟨((Below.refl w.heap.size w).alloc (by simp) _).alloc (by simp) _, below_cell (al _ _) hn.1, below_frozen (al _ _) hn.1 hn.2, ?_⟩
      have := World.alloc_heap_new (w.alloc (.cells #[.slice none 0 0] 22)) (.map #[] 0)
      rwa [World.size_alloc] at this
    have HI0 := Aside0.mk hI0
    clear hn hI0
    refine (addmake_calls 1 14 w.heap.size _).mono ?_
    rintro e V1 ⟨kb1, rb1, rfl, hk1, hk2, hk3, hk4, hk5, hk6, hB1⟩
    dsimp only
    have HJ1 := Aside0.mk (HI0.out.call hB1)
    have hR1 : RdAt V1 (w.heap.size + 2) V1.heap.size w.heap.size 14 1 (.func (.func 12) #[] #[.pointer (some ⟨kb1, 0, none⟩), .pointer (some ⟨rb1, 0, none⟩), .pointer (some ⟨w.heap.size, 0, none⟩)]) :=
      ⟨kb1, rb1, by have := blk_lt HI0.out.map; omega, hk2, by have := blk_lt HI0.out.map; omega, hk4, rfl, hk5, hk6⟩
    have HR1 := Aside0.mk hR1
    have hi1 := ins_run (k := ⟨#[112, 111, 115, 116]⟩) (v := .func (.func 12) #[] #[.pointer (some ⟨kb1, 0, none⟩), .pointer (some ⟨rb1, 0, none⟩), .pointer (some ⟨w.heap.size, 0, none⟩)]) HJ1.out.map (by kernel_rfl)
    obtain ⟨W1, hW1⟩ : ∃ W, W = V1.putObj (w.heap.size + 1) (.map (#[].push ⟨.string ⟨#[112, 111, 115, 116]⟩, .func (.func 12) #[] #[.pointer (some ⟨kb1, 0, none⟩), .pointer (some ⟨rb1, 0, none⟩), .pointer (some ⟨w.heap.size, 0, none⟩)], 0⟩) (0 + 1)) := ⟨_, rfl⟩
    rw [← hW1] at hi1
    have HI1 := Aside0.mk (show MkI w (#[].push ⟨.string ⟨#[112, 111, 115, 116]⟩, .func (.func 12) #[] #[.pointer (some ⟨kb1, 0, none⟩), .pointer (some ⟨rb1, 0, none⟩), .pointer (some ⟨w.heap.size, 0, none⟩)], 0⟩) (0 + 1) W1 from by rw [hW1]; exact HJ1.out.put)
    have HR1 := Aside0.mk (show RdAt W1 (w.heap.size + 2) W1.heap.size w.heap.size 14 1 _ from by rw [hW1]; exact (HR1.out.wide (Nat.le_refl _) (by simp)).put (by omega))
    clear hW1 hB1 hR1 hk1 hk2 hk3 hk4 hk5 hk6
    go_wp2_with fail
    refine (addmake_calls 2 16 w.heap.size _).mono ?_
    rintro e V2 ⟨kb2, rb2, rfl, hk1, hk2, hk3, hk4, hk5, hk6, hB2⟩
    dsimp only
    have HJ2 := Aside0.mk (HI1.out.call hB2)
    have hR2 : RdAt V2 (w.heap.size + 2) V2.heap.size w.heap.size 16 2 (.func (.func 12) #[] #[.pointer (some ⟨kb2, 0, none⟩), .pointer (some ⟨rb2, 0, none⟩), .pointer (some ⟨w.heap.size, 0, none⟩)]) :=
      ⟨kb2, rb2, by have := blk_lt HI1.out.map; omega, hk2, by have := blk_lt HI1.out.map; omega, hk4, rfl, hk5, hk6⟩
    have HR2 := Aside0.mk hR2
    have hi2 := ins_run (k := ⟨#[112, 117, 98, 108, 105, 115, 104]⟩) (v := .func (.func 12) #[] #[.pointer (some ⟨kb2, 0, none⟩), .pointer (some ⟨rb2, 0, none⟩), .pointer (some ⟨w.heap.size, 0, none⟩)]) HJ2.out.map (by kernel_rfl)
    obtain ⟨W2, hW2⟩ : ∃ W, W = V2.putObj (w.heap.size + 1) (.map ((#[].push ⟨.string ⟨#[112, 111, 115, 116]⟩, .func (.func 12) #[] #[.pointer (some ⟨kb1, 0, none⟩), .pointer (some ⟨rb1, 0, none⟩), .pointer (some ⟨w.heap.size, 0, none⟩)], 0⟩).push ⟨.string ⟨#[112, 117, 98, 108, 105, 115, 104]⟩, .func (.func 12) #[] #[.pointer (some ⟨kb2, 0, none⟩), .pointer (some ⟨rb2, 0, none⟩), .pointer (some ⟨w.heap.size, 0, none⟩)], 1⟩) (1 + 1)) := ⟨_, rfl⟩
    rw [← hW2] at hi2
    have HI2 := Aside0.mk (show MkI w ((#[].push ⟨.string ⟨#[112, 111, 115, 116]⟩, .func (.func 12) #[] #[.pointer (some ⟨kb1, 0, none⟩), .pointer (some ⟨rb1, 0, none⟩), .pointer (some ⟨w.heap.size, 0, none⟩)], 0⟩).push ⟨.string ⟨#[112, 117, 98, 108, 105, 115, 104]⟩, .func (.func 12) #[] #[.pointer (some ⟨kb2, 0, none⟩), .pointer (some ⟨rb2, 0, none⟩), .pointer (some ⟨w.heap.size, 0, none⟩)], 1⟩) (1 + 1) W2 from by rw [hW2]; exact HJ2.out.put)
    have HR1 := Aside0.mk (show RdAt W2 (w.heap.size + 2) W2.heap.size w.heap.size 14 1 _ from by rw [hW2]; exact ((HR1.out.below hB2).wide (Nat.le_refl _) (by simpa using hB2.size)).put (by omega))
    have HR2 := Aside0.mk (show RdAt W2 (w.heap.size + 2) W2.heap.size w.heap.size 16 2 _ from by rw [hW2]; exact (HR2.out.wide (Nat.le_refl _) (by simp)).put (by omega))
    clear hW2 hB2 hR2 hk1 hk2 hk3 hk4 hk5 hk6
    go_wp2_with fail
    refine (addmake_calls 3 17 w.heap.size _).mono ?_
    rintro e V3 ⟨kb3, rb3, rfl, hk1, hk2, hk3, hk4, hk5, hk6, hB3⟩
    dsimp only
    have HJ3 := Aside0.mk (HI2.out.call hB3)
    have hR3 : RdAt V3 (w.heap.size + 2) V3.heap.size w.heap.size 17 3 (.func (.func 12) #[] #[.pointer (some ⟨kb3, 0, none⟩), .pointer (some ⟨rb3, 0, none⟩), .pointer (some ⟨w.heap.size, 0, none⟩)]) :=
      ⟨kb3, rb3, by have := blk_lt HI2.out.map; omega, hk2, by have := blk_lt HI2.out.map; omega, hk4, rfl, hk5, hk6⟩
    have HR3 := Aside0.mk hR3
    have hi3 := ins_run (k := ⟨#[116, 105, 99, 107]⟩) (v := .func (.func 12) #[] #[.pointer (some ⟨kb3, 0, none⟩), .pointer (some ⟨rb3, 0, none⟩), .pointer (some ⟨w.heap.size, 0, none⟩)]) HJ3.out.map (by kernel_rfl)
    obtain ⟨W3, hW3⟩ : ∃ W, W = V3.putObj (w.heap.size + 1) (.map (((#[].push ⟨.string ⟨#[112, 111, 115, 116]⟩, .func (.func 12) #[] #[.pointer (some ⟨kb1, 0, none⟩), .pointer (some ⟨rb1, 0, none⟩), .pointer (some ⟨w.heap.size, 0, none⟩)], 0⟩).push ⟨.string ⟨#[112, 117, 98, 108, 105, 115, 104]⟩, .func (.func 12) #[] #[.pointer (some ⟨kb2, 0, none⟩), .pointer (some ⟨rb2, 0, none⟩), .pointer (some ⟨w.heap.size, 0, none⟩)], 1⟩).push ⟨.string ⟨#[116, 105, 99, 107]⟩, .func (.func 12) #[] #[.pointer (some ⟨kb3, 0, none⟩), .pointer (some ⟨rb3, 0, none⟩), .pointer (some ⟨w.heap.size, 0, none⟩)], 2⟩) (2 + 1)) := ⟨_, rfl⟩
    rw [← hW3] at hi3
    have HI3 := Aside0.mk (show MkI w (((#[].push ⟨.string ⟨#[112, 111, 115, 116]⟩, .func (.func 12) #[] #[.pointer (some ⟨kb1, 0, none⟩), .pointer (some ⟨rb1, 0, none⟩), .pointer (some ⟨w.heap.size, 0, none⟩)], 0⟩).push ⟨.string ⟨#[112, 117, 98, 108, 105, 115, 104]⟩, .func (.func 12) #[] #[.pointer (some ⟨kb2, 0, none⟩), .pointer (some ⟨rb2, 0, none⟩), .pointer (some ⟨w.heap.size, 0, none⟩)], 1⟩).push ⟨.string ⟨#[116, 105, 99, 107]⟩, .func (.func 12) #[] #[.pointer (some ⟨kb3, 0, none⟩), .pointer (some ⟨rb3, 0, none⟩), .pointer (some ⟨w.heap.size, 0, none⟩)], 2⟩) (2 + 1) W3 from by rw [hW3]; exact HJ3.out.put)
    have HR1 := Aside0.mk (show RdAt W3 (w.heap.size + 2) W3.heap.size w.heap.size 14 1 _ from by rw [hW3]; exact ((HR1.out.below hB3).wide (Nat.le_refl _) (by simpa using hB3.size)).put (by omega))
    have HR2 := Aside0.mk (show RdAt W3 (w.heap.size + 2) W3.heap.size w.heap.size 16 2 _ from by rw [hW3]; exact ((HR2.out.below hB3).wide (Nat.le_refl _) (by simpa using hB3.size)).put (by omega))
    have HR3 := Aside0.mk (show RdAt W3 (w.heap.size + 2) W3.heap.size w.heap.size 17 3 _ from by rw [hW3]; exact (HR3.out.wide (Nat.le_refl _) (by simp)).put (by omega))
    clear hW3 hB3 hR3 hk1 hk2 hk3 hk4 hk5 hk6
    go_wp2_with fail
    refine (addmake_calls 4 19 w.heap.size _).mono ?_
    rintro e V4 ⟨kb4, rb4, rfl, hk1, hk2, hk3, hk4, hk5, hk6, hB4⟩
    dsimp only
    have HJ4 := Aside0.mk (HI3.out.call hB4)
    have hR4 : RdAt V4 (w.heap.size + 2) V4.heap.size w.heap.size 19 4 (.func (.func 12) #[] #[.pointer (some ⟨kb4, 0, none⟩), .pointer (some ⟨rb4, 0, none⟩), .pointer (some ⟨w.heap.size, 0, none⟩)]) :=
      ⟨kb4, rb4, by have := blk_lt HI3.out.map; omega, hk2, by have := blk_lt HI3.out.map; omega, hk4, rfl, hk5, hk6⟩
    have HR4 := Aside0.mk hR4
    have hi4 := ins_run (k := ⟨#[114, 117, 110]⟩) (v := .func (.func 12) #[] #[.pointer (some ⟨kb4, 0, none⟩), .pointer (some ⟨rb4, 0, none⟩), .pointer (some ⟨w.heap.size, 0, none⟩)]) HJ4.out.map (by kernel_rfl)
    obtain ⟨W4, hW4⟩ : ∃ W, W = V4.putObj (w.heap.size + 1) (.map ((((#[].push ⟨.string ⟨#[112, 111, 115, 116]⟩, .func (.func 12) #[] #[.pointer (some ⟨kb1, 0, none⟩), .pointer (some ⟨rb1, 0, none⟩), .pointer (some ⟨w.heap.size, 0, none⟩)], 0⟩).push ⟨.string ⟨#[112, 117, 98, 108, 105, 115, 104]⟩, .func (.func 12) #[] #[.pointer (some ⟨kb2, 0, none⟩), .pointer (some ⟨rb2, 0, none⟩), .pointer (some ⟨w.heap.size, 0, none⟩)], 1⟩).push ⟨.string ⟨#[116, 105, 99, 107]⟩, .func (.func 12) #[] #[.pointer (some ⟨kb3, 0, none⟩), .pointer (some ⟨rb3, 0, none⟩), .pointer (some ⟨w.heap.size, 0, none⟩)], 2⟩).push ⟨.string ⟨#[114, 117, 110]⟩, .func (.func 12) #[] #[.pointer (some ⟨kb4, 0, none⟩), .pointer (some ⟨rb4, 0, none⟩), .pointer (some ⟨w.heap.size, 0, none⟩)], 3⟩) (3 + 1)) := ⟨_, rfl⟩
    rw [← hW4] at hi4
    have HI4 := Aside0.mk (show MkI w ((((#[].push ⟨.string ⟨#[112, 111, 115, 116]⟩, .func (.func 12) #[] #[.pointer (some ⟨kb1, 0, none⟩), .pointer (some ⟨rb1, 0, none⟩), .pointer (some ⟨w.heap.size, 0, none⟩)], 0⟩).push ⟨.string ⟨#[112, 117, 98, 108, 105, 115, 104]⟩, .func (.func 12) #[] #[.pointer (some ⟨kb2, 0, none⟩), .pointer (some ⟨rb2, 0, none⟩), .pointer (some ⟨w.heap.size, 0, none⟩)], 1⟩).push ⟨.string ⟨#[116, 105, 99, 107]⟩, .func (.func 12) #[] #[.pointer (some ⟨kb3, 0, none⟩), .pointer (some ⟨rb3, 0, none⟩), .pointer (some ⟨w.heap.size, 0, none⟩)], 2⟩).push ⟨.string ⟨#[114, 117, 110]⟩, .func (.func 12) #[] #[.pointer (some ⟨kb4, 0, none⟩), .pointer (some ⟨rb4, 0, none⟩), .pointer (some ⟨w.heap.size, 0, none⟩)], 3⟩) (3 + 1) W4 from by rw [hW4]; exact HJ4.out.put)
    have HR1 := Aside0.mk (show RdAt W4 (w.heap.size + 2) W4.heap.size w.heap.size 14 1 _ from by rw [hW4]; exact ((HR1.out.below hB4).wide (Nat.le_refl _) (by simpa using hB4.size)).put (by omega))
    have HR2 := Aside0.mk (show RdAt W4 (w.heap.size + 2) W4.heap.size w.heap.size 16 2 _ from by rw [hW4]; exact ((HR2.out.below hB4).wide (Nat.le_refl _) (by simpa using hB4.size)).put (by omega))
    have HR3 := Aside0.mk (show RdAt W4 (w.heap.size + 2) W4.heap.size w.heap.size 17 3 _ from by rw [hW4]; exact ((HR3.out.below hB4).wide (Nat.le_refl _) (by simpa using hB4.size)).put (by omega))
    have HR4 := Aside0.mk (show RdAt W4 (w.heap.size + 2) W4.heap.size w.heap.size 19 4 _ from by rw [hW4]; exact (HR4.out.wide (Nat.le_refl _) (by simp)).put (by omega))
    clear hW4 hB4 hR4 hk1 hk2 hk3 hk4 hk5 hk6
    go_wp2_with fail
    have hM : RdMap W4 (w.heap.size + 1) W4.heap.size w.heap.size (w.heap.size + 1) :=
      ⟨Nat.le_refl _, blk_lt HI4.out.map, _, _, _, _, HI4.out.map, HR1.out.wide (by omega) (Nat.le_refl _), HR2.out.wide (by omega) (Nat.le_refl _), HR3.out.wide (by omega) (Nat.le_refl _), HR4.out.wide (by omega) (Nat.le_refl _)⟩
    have hB04 : Below w.heap.size w W4 := HI4.out.below
    have hz4 : w.heap.size < W4.heap.size := World.block_lt_of_cell? _ _ HI4.out.out
    refine ((callsIn_wide (n := 0)).1 (each_in (te := te) (pe := pe) (by have := HSM.out; omega) (hE.out.below hB04) h60 (Nat.lt_succ_self _) (Nat.le_refl _) hz4 hM (below_cell hB04 hEV.out) HI4.out.out HI4.out.outf)).mono ?_
    rintro e W5 (⟨xs, v, rfl, hrun, hout, hrows, hchg⟩ | ⟨b, line, rfl, hbad, hcell, hb, hchg⟩)
    · have HB := Aside0.mk (show Below w.heap.size w W5 from ⟨hchg.os.trans hB04.os, hchg.tape.trans hB04.tape, hchg.output.trans hB04.output, Nat.le_trans hB04.size hchg.size, fun k hk => (hchg.same k (by omega) (by omega)).trans (hB04.block k hk)⟩)
      have HRN := Aside0.mk hrun
      have HRW := Aside0.mk (Kd.R_lower hrows (Nat.le_of_lt hz4))
      obtain ⟨Ao, co, rfl⟩ := Kd.R_slice hrows
      clear hrun hrows hchg hM hB04 HI0 HI1 HI2 HI3 HI4 HR1 HR2 HR3 HR4 hi1 hi2 hi3 hi4 HJ1 HJ2 HJ3 HJ4
      dsimp only
      go_wp2_with fail
      go_ret2
      exact ⟨_, xs, 0, rfl, HRW.out, HB.out, .inr ⟨by have := HSM.out; omega, .inl ⟨HRN.out, rfl⟩⟩⟩
    · have HB := Aside0.mk (show Below w.heap.size w W5 from ⟨hchg.os.trans hB04.os, hchg.tape.trans hB04.tape, hchg.output.trans hB04.output, Nat.le_trans hB04.size hchg.size, fun k hk => (hchg.same k (by omega) (by omega)).trans (hB04.block k hk)⟩)
      have HBAD := Aside0.mk hbad
      have HCL := Aside0.mk hcell
      clear hbad hcell hchg hM hB04 HI0 HI1 HI2 HI3 HI4 HR1 HR2 HR3 HR4 hi1 hi2 hi3 hi4 HJ1 HJ2 HJ3 HJ4
      dsimp only
      go_wp2_with fail
      refine (lineOf_calls ((Chg.of_below (S := fun _ => False) (⟨HB.out.os, HB.out.tape, HB.out.output, HB.out.size, HB.out.block⟩ : Below w.heap.size w W5)).cell hTY.out (fun e => e)) HCL.out).mono ?_
      rintro e W6 ⟨rfl, hB6⟩
      have HB6 := Aside0.mk (HB.out.trans (hB6.mono HB.out.size))
      clear hB6
      dsimp only
      go_wp2_with fail
      go_ret2
      exact ⟨_, [], line, rfl, Kd.R_nil _ _ _ _ _, HB6.out, .inr ⟨by have := HSM.out; omega, .inr ⟨rfl, HBAD.out⟩⟩⟩
end Go.Proofs.YtbdpnimfkogajaaDoor.Txt
