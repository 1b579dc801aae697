/- Proved here: what impl's eachLine does at a text and the map of the readers. Conditions: they stand in the statement. -/
import Derived.Test.YtbdpnimfkogajaaDoorKN10
import Derived.Sort.QuietIn
import Derived.Shelf.RegionOpen
namespace Go.Proofs.YtbdpnimfkogajaaDoor.Txt
open Go.RowKit Go.Shelf Go.Proofs.YtbdpnimfkogajaaDoorW.PrintWords Go.Proofs.YtbdpnimfkogajaaDoorW.PrintLast Go.Proofs.YtbdpnimfkogajaaDoorW.PrintMore Go.Proofs.YtbdpnimfkogajaaDoor.PFnExactParseScript
set_option linter.unusedVariables false
attribute [local go_sem] Oper.semAt_some
def BadAt (lines : List ByteArray) (line : Int) : Prop := ∃ pre x post xs, lines = pre ++ x :: post ∧ Runs [] pre xs ∧ ¬ Blank x ∧ ((∀ cs, ¬ LineItem x cs) ∨ 4000 ≤ xs.length) ∧ line = (pre.length : Int) + 1
def EachEnds (ob : Nat) (text : ByteArray) (w : World) (e : Ending) (w' : World) : Prop :=
  (∃ xs v, e = .returned .nilIface ∧ Runs [] (pieces text 10 (text.size + 1) 0 0) xs ∧ w'.cell? ⟨ob, 0, none⟩ = some v ∧ Kd.R k31 31 w' w.heap.size (fun _ => True) v xs ∧ Chg (fun k => k = ob) w w') ∨
  (∃ b line, e = .returned (.iface 56 (.pointer (some ⟨b, 0, none⟩))) ∧ BadAt (pieces text 10 (text.size + 1) 0 0) line ∧ w'.cell? ⟨b, 0, none⟩ = some (.int .i64 line) ∧ w.heap.size ≤ b ∧ Chg (fun k => k = ob) w w')
structure EachI (w : World) (ob lo hi mb n1 : Nat) (ev : Value) (c : Int) (xs : List S31) (v : Value) (W : World) : Prop where
  errv : ErrV W
  map : RdMap W lo hi ob mb
  glob : W.cell? ⟨0, 0, none⟩ = some ev
  out : W.cell? ⟨ob, 0, none⟩ = some v
  outf : W.frozen? ⟨ob, 0, none⟩ = false
  rows : Kd.R k31 31 W n1 (fun _ => True) v xs
  mbox : W.cell? ⟨w.heap.size, 0, none⟩ = some (.map (some mb))
  res : W.cell? ⟨w.heap.size + 1, 0, none⟩ = some .nilIface
  resf : W.frozen? ⟨w.heap.size + 1, 0, none⟩ = false
  cnt : W.cell? ⟨w.heap.size + 1 + 1, 0, none⟩ = some (.int .i64 c)
  cntf : W.frozen? ⟨w.heap.size + 1 + 1, 0, none⟩ = false
  size : n1 ≤ W.heap.size
  chg : Chg (fun k => k = ob) w W
theorem Chg.frozen {S : Nat → Prop} {w w' : World} (h : Chg S w w') {a : Addr} {v : Value} (hc : w.cell? a = some v) (hf : w.frozen? a = false) (hn : ¬ S a.block) : w'.frozen? a = false := (World.frozen?_of_block (h.same a.block (World.block_lt_of_cell? w a hc) hn)).trans hf
theorem EachI.chg_ {w : World} {ob lo hi mb n1 : Nat} {ev : Value} {c : Int} {xs : List S31} {v : Value} {W W' : World} {S : Nat → Prop} (h : EachI w ob lo hi mb n1 ev c xs v W) (hc : Chg S W W') (h6 : 6 < ob) (hlo : ob < w.heap.size) (hhi : hi ≤ w.heap.size) (hn : w.heap.size + 3 ≤ n1)
    (h5 : ∀ k, k < w.heap.size + 3 → ¬ S k) (hn1 : ∀ k, n1 ≤ k → ¬ S k) : EachI w ob lo hi mb n1 ev c xs v W' :=
  ⟨hc.errV h.errv (h5 5 (by omega)) (h5 6 (by omega)), h.map.chg hc (fun k _ hk => h5 k (by omega)), hc.cell h.glob (h5 0 (by omega)), hc.cell h.out (h5 ob (by omega)), hc.frozen h.out h.outf (h5 ob (by omega)),
    rows_step h.rows (fun k hk => hc.same k (Kd.R_lt h.rows k hk) (hn1 k (Kd.R_base h.rows k hk))), hc.cell h.mbox (h5 _ (by simp)), hc.cell h.res (h5 _ (by simp)), hc.frozen h.res h.resf (h5 _ (by simp)), hc.cell h.cnt (h5 _ (by simp)), hc.frozen h.cnt h.cntf (h5 _ (by simp)),
    Nat.le_trans h.size hc.size, ⟨hc.os.trans h.chg.os, hc.tape.trans h.chg.tape, hc.output.trans h.chg.output, Nat.le_trans h.chg.size hc.size, fun k hk hn => (hc.same k (Nat.lt_of_lt_of_le hk h.chg.size) (h5 k (by omega))).trans (h.chg.same k hk hn)⟩⟩
theorem EachI.count {w : World} {ob lo hi mb n1 : Nat} {ev : Value} {c : Int} {xs : List S31} {v : Value} {W : World} (h : EachI w ob lo hi mb n1 ev c xs v W) (h6 : 6 < ob) (hlo : ob < w.heap.size) (hhi : hi ≤ w.heap.size) (hn : w.heap.size + 3 ≤ n1) (c' : Int) :
    EachI w ob lo hi mb n1 ev c' xs v (W.setCell ⟨w.heap.size + 1 + 1, 0, none⟩ (.int .i64 c')) := by
  have hc : Chg (fun k => k = w.heap.size + 1 + 1) W (W.setCell ⟨w.heap.size + 1 + 1, 0, none⟩ (.int .i64 c')) := Chg.set _ _ _ rfl
  exact ⟨hc.errV h.errv (by omega) (by omega), h.map.chg hc (fun k _ hk => by omega), hc.cell h.glob (by simp), hc.cell h.out (by simp; omega), hc.frozen h.out h.outf (by simp; omega),
    rows_step h.rows (fun k hk => hc.same k (Kd.R_lt h.rows k hk) (by have := Kd.R_base h.rows k hk; omega)), hc.cell h.mbox (by simp; omega), hc.cell h.res (by simp), hc.frozen h.res h.resf (by simp),
    World.cell?_setCell_same' _ _ _ (by rw [h.cnt]; rfl), by rw [World.frozen?_setCell]; exact h.cntf, Nat.le_trans h.size hc.size,
    ⟨hc.os.trans h.chg.os, hc.tape.trans h.chg.tape, hc.output.trans h.chg.output, Nat.le_trans h.chg.size hc.size, fun k hk hn => (hc.same k (Nat.lt_of_lt_of_le hk h.chg.size) (by omega)).trans (h.chg.same k hk hn)⟩⟩
theorem EachI.grow {w : World} {ob lo hi mb n1 : Nat} {ev : Value} {c : Int} {xs ys : List S31} {v u : Value} {W W' : World} (h : EachI w ob lo hi mb n1 ev c xs v W) (hc : Chg (fun k => k = ob ∨ n1 ≤ k) W W') (h6 : 6 < ob) (hlo : ob < lo) (hob : ob < w.heap.size) (hhi : hi ≤ w.heap.size) (hn : w.heap.size + 3 ≤ n1)
    (ho : W'.cell? ⟨ob, 0, none⟩ = some u) (hf : W'.frozen? ⟨ob, 0, none⟩ = false) (hr : Kd.R k31 31 W' n1 (fun _ => True) u ys) : EachI w ob lo hi mb n1 ev c ys u W' :=
  ⟨hc.errV h.errv (by omega) (by omega), h.map.chg hc (fun k _ hk => by omega), hc.cell h.glob (by simp; omega), ho, hf, hr, hc.cell h.mbox (by simp; omega), hc.cell h.res (by simp; omega), hc.frozen h.res h.resf (by simp; omega),
    hc.cell h.cnt (by simp; omega), hc.frozen h.cnt h.cntf (by simp; omega), Nat.le_trans h.size hc.size,
    ⟨hc.os.trans h.chg.os, hc.tape.trans h.chg.tape, hc.output.trans h.chg.output, Nat.le_trans h.chg.size hc.size, fun k hk hn' => (hc.same k (Nat.lt_of_lt_of_le hk h.chg.size) (by omega)).trans (h.chg.same k hk hn')⟩⟩
theorem empty_list (x : ByteArray) : x.toList.isEmpty = decide (x.size = 0) := by
  rw [ByteArray.toList_eq]
  have h : x.data.toList.length = x.size := Array.length_toList
  cases hl : x.data.toList with
  | nil => rw [hl] at h; simp at h; simp [← h]
  | cons a l => rw [hl] at h; simp at h; rw [decide_eq_false (by omega)]; rfl
theorem byte_is35 {b : UInt8} (h : ((b.toNat : Nat) : Int) = 35) : b = 35 := by
  have : b.toNat = 35 := by omega
  exact UInt8.toNat_inj.1 this
def EachJ (w : World) (ob lo hi mb n1 : Nat) (ev : Value) (pre : List ByteArray) (W : World) : Prop := ∃ xs v, Runs [] pre xs ∧ EachI w ob lo hi mb n1 ev pre.length xs v W
def EachX (w : World) (ob n1 : Nat) (text : ByteArray) (W : World) : Prop :=
  ∃ b line, BadAt (pieces text 10 (text.size + 1) 0 0) line ∧ W.cell? ⟨w.heap.size + 1, 0, none⟩ = some (.iface 56 (.pointer (some ⟨b, 0, none⟩))) ∧ W.cell? ⟨b, 0, none⟩ = some (.int .i64 line) ∧ n1 ≤ b ∧ Chg (fun k => k = ob) w W
theorem wpListIn_pass {F : Fence} {n : Nat} {P : Program} {ops : Array Oper} {rest : List Oper} {o : Oper} {a : Act} {w : World} {Q : Exit → Act → World → Prop} (hF : ∀ f, F.fn f) (hw : Region.wanted o (yielded ops a.tmps) = false) (h : wpListIn F n P ops Q rest (a.put o.dst undef) w) : wpListIn F n P ops Q (o :: rest) a w := by
  simp only [wpListIn, hw]
  exact ⟨fun f _ => hF f, h⟩
theorem results_box39 {fn : Func} {p : Tmp} (h : fn.results = #[.cell p 39]) (tmps : Array Value) (w : World) (g : Nat) (v : Value) (hp : tmps.getD p undef = .pointer (some ⟨g, 0, none⟩)) (hc : w.cell? ⟨g, 0, none⟩ = some v) :
    (results fn tmps).run Tryd.prog w = .ok v w := by
  have hp' : tmps[p]?.getD undef = .pointer (some ⟨g, 0, none⟩) := by simpa using hp
  have hu := Tryd.underlying39
  simp only [results, h]
  go_simp
theorem EachI.wrong {w : World} {ob lo hi mb n1 : Nat} {ev : Value} {xs : List S31} {v : Value} {W W0 : World} {text x : ByteArray} {pre post : List ByteArray} {Sx : Nat → Prop} (h : EachI w ob lo hi mb n1 ev (pre.length + 1) xs v W) (h6 : 6 < ob) (hob : ob < w.heap.size) (hhi : hi ≤ w.heap.size) (hn : w.heap.size + 3 ≤ n1)
    (hS : Sx (w.heap.size + 1)) (hc : Chg Sx W0 W) (hP : pre ++ x :: post = pieces text 10 (text.size + 1) 0 0) (ys : List S31) (hrn : Runs [] pre ys) (hb : ¬ Blank x) (hbad : (∀ cs, ¬ LineItem x cs) ∨ 4000 ≤ ys.length) :
    Chg Sx W0 ((W.setCell ⟨w.heap.size + 1, 0, none⟩ (.iface 56 (.pointer (some ⟨W.heap.size, 0, none⟩)))).alloc (.cells #[.int .i64 (pre.length + 1), ev] 58)) ∧
    EachX w ob n1 text ((W.setCell ⟨w.heap.size + 1, 0, none⟩ (.iface 56 (.pointer (some ⟨W.heap.size, 0, none⟩)))).alloc (.cells #[.int .i64 (pre.length + 1), ev] 58)) := by
  obtain ⟨W2, hW2⟩ : ∃ W2, W2 = W.setCell ⟨w.heap.size + 1, 0, none⟩ (.iface 56 (.pointer (some ⟨W.heap.size, 0, none⟩))) := ⟨_, rfl⟩
  have hC2 : Chg (fun k => k = w.heap.size + 1) W W2 := by rw [hW2]; exact Chg.set _ _ _ rfl
  have hz2 : W2.heap.size = W.heap.size := by rw [hW2]; simp
  have hr2 : W2.cell? ⟨w.heap.size + 1, 0, none⟩ = some (.iface 56 (.pointer (some ⟨W.heap.size, 0, none⟩))) := by rw [hW2]; exact World.cell?_setCell_same' _ _ _ (by rw [h.res]; rfl)
  rw [← hW2]
  have hB := al W2 (.cells #[.int .i64 (pre.length + 1), ev] 58)
  have hC : Chg (fun k => k = w.heap.size + 1) W (W2.alloc (.cells #[.int .i64 (pre.length + 1), ev] 58)) := hC2.trans (Chg.of_below hB)
  have hnew : (W2.alloc (.cells #[.int .i64 (pre.length + 1), ev] 58)).cell? ⟨W.heap.size, 0, none⟩ = some (.int .i64 (pre.length + 1)) := by
    have h := World.alloc_heap_new W2 (.cells #[.int .i64 (pre.length + 1), ev] 58)
    rw [hz2] at h
    unfold World.cell?; rw [h]; rfl
  have hs := h.size
  refine ⟨hc.trans (hC.mono (fun k hk => hk ▸ hS)), W.heap.size, pre.length + 1, ⟨pre, x, post, ys, hP.symm, hrn, hb, hbad, rfl⟩, below_cell hB hr2, hnew, hs, ?_⟩
  · exact ⟨hC.os.trans h.chg.os, hC.tape.trans h.chg.tape, hC.output.trans h.chg.output, Nat.le_trans h.chg.size hC.size, fun k hk hn => (hC.same k (Nat.lt_of_lt_of_le hk h.chg.size) (by omega)).trans (h.chg.same k hk hn)⟩
set_option maxHeartbeats 2000000 in
set_option maxRecDepth 100000 in
theorem each_in {n ob lo hi mb : Nat} {text : ByteArray} {te : TypeId} {pe : Value} {w : World} (hmax : text.size ≤ 30000) (hE : ErrV w) (h6 : 6 < ob) (hlo : ob < lo) (hhi : hi ≤ w.heap.size) (hob : ob < w.heap.size) (hM : RdMap w lo hi ob mb)
    (hev : w.cell? ⟨0, 0, none⟩ = some (.iface te pe)) (hoc : w.cell? ⟨ob, 0, none⟩ = some (.slice none 0 0)) (hof : w.frozen? ⟨ob, 0, none⟩ = false) :
    CallsIn Fence.wide n Tryd.prog 13 #[.string text, .map (some mb)] w (EachEnds ob text w) := by
  refine callsIn_of_wp_marks Tryd.func13 rfl trivial ?_ rfl
  simp only [Tryd.ntmps13, List.size_toArray, List.length_cons, List.length_nil, Nat.reduceAdd, Nat.reduceSub, Array.replicate_succ, Array.replicate_zero, List.push_toArray, List.append_toArray, List.nil_append, List.cons_append]
  gi_wp2_with (refine ⟨trivial, fun h => absurd h (by decide), ?_⟩; gi_at_call 25; refine (callsIn_wide.2 (seqmake_calls _ _ _)).mono ?_; rintro e w1 ⟨sB, pB, vB, rfl, h1, h2, h3, h4, h5, h6', h7, h8, hB1⟩)
  have hz0 : w.heap.size + 3 ≤ w1.heap.size := by have := hB1.size; simp at this; omega
  have hB0 : Below w.heap.size w w1 := ((((Below.refl w.heap.size w).alloc (by simp) _).alloc (by simp) _).alloc (by simp; omega) _).trans (hB1.mono (by simp; omega))
  have b1 := new_box w (.map (some mb)) 44
  have b2 := new_box (w.alloc (.cells #[.map (some mb)] 44)) .nilIface 39
  have b3 := new_box ((w.alloc (.cells #[.map (some mb)] 44)).alloc (.cells #[.nilIface] 39)) (.int .i64 0) 3
  simp only [World.size_alloc] at b2 b3
  have hlt0 := World.block_lt_of_cell? _ _ h5
  simp only [World.size_alloc] at h1
  refine range_seq (by omega) rfl (by omega) (by omega) (Sx := fun k => k = ob ∨ k = w.heap.size + 1 ∨ k = w.heap.size + 1 + 1 ∨ w1.heap.size + 2 ≤ k) (by omega) (by omega) (by omega) (by omega) (by omega) h5 h6' h7 h8
    (EachJ w ob lo hi mb (w1.heap.size + 2) (.iface te pe)) (EachX w ob (w1.heap.size + 2) text)
    ?hI ?hE ?h0
    (fun x => { tmps := #[.string text, .map (some mb), undef, .pointer (some ⟨w.heap.size, 0, none⟩), .pointer (some ⟨w.heap.size + 1, 0, none⟩), .pointer (some ⟨w.heap.size + 1 + 1, 0, none⟩), .string x, undef, undef, undef, .string text,
      .func (.func 38) #[] #[.pointer (some ⟨pB, 0, none⟩), .pointer (some ⟨sB, 0, none⟩), .pointer (some ⟨vB, 0, none⟩)], .string x, undef, undef, undef, undef, undef, undef, undef, undef, undef, undef, undef, undef, undef, undef,
      undef, undef, undef, undef, undef, undef, undef, undef, undef, undef, undef, undef, undef, undef, undef, undef, undef, undef, undef], defers := [] })
    ?assign ?body ?done ?stop
  case hI =>
    rintro pre W W' ⟨xs, v, hrn, h⟩ hc
    exact ⟨xs, v, hrn, h.chg_ hc h6 hob hhi (by omega) (fun k hk => by omega) (fun k hk => by omega)⟩
  case hE =>
    rintro W W' ⟨b, line, hbad, hr, hl, hb, hch⟩ hc
    exact ⟨b, line, hbad, hc.cell hr (by simp; omega), hc.cell hl (by simp; omega), hb, ⟨hc.os.trans hch.os, hc.tape.trans hch.tape, hc.output.trans hch.output, Nat.le_trans hch.size hc.size, fun k hk hn => (hc.same k (Nat.lt_of_lt_of_le hk hch.size) (by omega)).trans (hch.same k hk hn)⟩⟩
  case h0 =>
    intro W hc hsz
    have hc1 : ∀ {a : Addr} {v : Value}, (((w.alloc (.cells #[.map (some mb)] 44)).alloc (.cells #[.nilIface] 39)).alloc (.cells #[.int .i64 0] 3)).cell? a = some v → W.cell? a = some v := fun h => hc.cell (below_cell hB1 h) (fun e => e)
    have hf1 : ∀ {a : Addr} {v : Value}, (((w.alloc (.cells #[.map (some mb)] 44)).alloc (.cells #[.nilIface] 39)).alloc (.cells #[.int .i64 0] 3)).cell? a = some v → (((w.alloc (.cells #[.map (some mb)] 44)).alloc (.cells #[.nilIface] 39)).alloc (.cells #[.int .i64 0] 3)).frozen? a = false → W.frozen? a = false := fun h hf => hc.frozen (below_cell hB1 h) (below_frozen hB1 h hf) (fun e => e)
    have hcw : Chg (fun _ => False) w W := (Chg.of_below hB0).trans hc
    exact ⟨[], .slice none 0 0, rfl, hcw.errV hE (fun e => e) (fun e => e), hM.chg hcw (fun _ _ _ e => e), hcw.cell hev (fun e => e), hcw.cell hoc (fun e => e), hcw.frozen hoc hof (fun e => e), Kd.R_nil _ _ _ _ _,
      hc1 (below_cell (al _ _) (below_cell (al _ _) b1.1)), hc1 (below_cell (al _ _) b2.1), hf1 (below_cell (al _ _) b2.1) (below_frozen (al _ _) b2.1 b2.2), hc1 b3.1, hf1 b3.1 b3.2, by omega, hcw.mono (fun k h => h.elim)⟩
  case assign =>
    intro l x W K hK
    gi_wp2
    exact hK
  case body =>
    rintro l pre x post W ⟨xs, v, hrn, h⟩ hP hz
    have hpl : pre.length ≤ 30000 := by
      have := congrArg List.length hP
      have h2 := pieces_len text 10 (text.size + 1) 0 0
      rw [List.length_append, List.length_cons] at this
      omega
    have hxs : x.size ≤ 30000 := Nat.le_trans (piece_size text 10 _ _ _ x (by rw [← hP]; simp)) hmax
    have hcnt := h.cnt
    have hcntf := h.cntf
    have hlen := hrn.len
    have H := Aside0.mk (h.count h6 hob hhi (by omega) (pre.length + 1))
    have HN := Aside0.mk hrn
    have HP := Aside0.mk hP
    have HM := Aside0.mk hM
    have HE := Aside0.mk hE
    have hC0 : Chg (fun k => k = ob ∨ k = w.heap.size + 1 ∨ k = w.heap.size + 1 + 1 ∨ w1.heap.size + 2 ≤ k) W (W.setCell ⟨w.heap.size + 1 + 1, 0, none⟩ (.int .i64 (pre.length + 1))) := Chg.set _ _ _ (.inr (.inr (.inl rfl)))
    have HC0 := Aside0.mk hC0
    have hemp := empty_list x
    clear h hP hM hE b1 b2 b3 hB0 hB1 h5 h6' h7 h8 hrn hC0
    by_cases hx0 : x.size = 0
    · have hb : Blank x := .inl hx0
      rw [decide_eq_true hx0] at hemp
      gi_wp2
      exact ⟨HC0.out, xs, v, HN.out.snoc (.inl ⟨hb, rfl⟩), by simpa using H.out⟩
    rw [decide_eq_false hx0] at hemp
    have hxp : 0 < x.size := by omega
    by_cases hc35 : ((x[0].toNat : Nat) : Int) = 35
    · have hb : Blank x := .inr ⟨hxp, byte_is35 hc35⟩
      gi_wp2
      exact ⟨HC0.out, xs, v, HN.out.snoc (.inl ⟨hb, rfl⟩), by simpa using H.out⟩
    · have hb : ¬ Blank x := by
        rintro (h | ⟨h, e⟩)
        · exact hx0 h
        · exact hc35 (by rw [e]; rfl)
      obtain ⟨s, rest, hsr⟩ : ∃ s rest, fieldsOf x = s :: rest := by
        cases hf : fieldsOf x with
        | nil => exact absurd hf (pieces_pos x 32 _ 0 0 (by omega) (by omega))
        | cons s rest => exact ⟨s, rest, rfl⟩
      gi_wp2
      refine ⟨trivial, fun h => absurd h (by decide), ?_⟩
      refine ((callsIn_wide.2 (split_calls x (by omega))).inRound l).mono ?_
      rintro e W3 ⟨vf, rfl, hown3, hB3⟩
      dsimp only
      have H3 := Aside0.mk (H.out.chg_ (S := fun _ => False) (Chg.of_below hB3) h6 hob hhi (by omega) (fun _ _ e => e) (fun _ _ e => e))
      have HC3 := Aside0.mk (HC0.out.trans (Chg.of_below hB3))
      have hF : Kd.R Kd.string 9 W3 (W.setCell ⟨w.heap.size + 1 + 1, 0, none⟩ (.int .i64 (pre.length + 1))).heap.size (fun _ => True) vf (s :: rest) := Kd.R_of_own (by rw [← hsr]; exact hown3) (fun _ _ => trivial)
      obtain ⟨gf, cf, rfl⟩ : ∃ gf cf, vf = .slice (some ⟨gf, 0, none⟩) (rest.length + 1) cf := by
        rcases hown3.2 with ⟨_, h0⟩ | ⟨g, cap, cur, rfl, _⟩
        · have := congrArg List.length hsr
          unfold fieldsOf at this
          rw [this] at h0
          simp at h0
        · have := congrArg List.length hsr
          unfold fieldsOf at this
          rw [this]
          exact ⟨g, cap, rfl⟩
      have hcf := (Kd.R_reads' hF).2.1
      have hCf := (Kd.R_reads' hF).2.2
      have HF := Aside0.mk hF
      have HCf := Aside0.mk hCf
      have hs0 : W3.cell? ⟨gf, 0, none⟩ = some (.string s) := by
        obtain ⟨ag, hag, hs⟩ := str_at hCf (k := 0) (x := s) rfl
        cases hag
        exact hs
      have hbk : gf < W3.heap.size := World.block_lt_of_cell? _ _ hs0
      have hmb3 := H3.out.mbox
      clear hown3 hB3 hF hCf H HC0
      rcases H3.out.map.look s with ⟨kb, rb, g, k, I, hg, hread, hkb, hrb, hiff, hlook⟩ | ⟨hno, hlook⟩
      · have hlook1 := hlook W3.drew rfl
        gi_wp2
        refine wpIn_mono (Q := fun e a' w' => e = .normal ∧ a' = { tmps := #[.string text, .map (some mb), undef, .pointer (some ⟨w.heap.size, 0, none⟩), .pointer (some ⟨w.heap.size + 1, 0, none⟩), .pointer (some ⟨w.heap.size + 1 + 1, 0, none⟩), .string x, .slice (some ⟨gf, 0, none⟩) (rest.length + 1) cf, .func (.func 12) #[] #[.pointer (some ⟨kb, 0, none⟩), .pointer (some ⟨rb, 0, none⟩), .pointer (some ⟨ob, 0, none⟩)], .bool true, .string text,
          .func (.func 38) #[] #[.pointer (some ⟨pB, 0, none⟩), .pointer (some ⟨sB, 0, none⟩), .pointer (some ⟨vB, 0, none⟩)], .string x, .int .i64 pre.length, .int .i64 (pre.length + 1), .string x, .bool false, .bool false, .string x, .int .u8 x[0].toNat, .bool false, .bool false, .string x, .slice (some ⟨gf, 0, none⟩) (rest.length + 1) cf,
          .tuple #[.func (.func 12) #[] #[.pointer (some ⟨kb, 0, none⟩), .pointer (some ⟨rb, 0, none⟩), .pointer (some ⟨ob, 0, none⟩)], .bool true], .map (some mb), .slice (some ⟨gf, 0, none⟩) (rest.length + 1) cf, .pointer (some ⟨gf, 0, none⟩), .string s, .tuple #[.func (.func 12) #[] #[.pointer (some ⟨kb, 0, none⟩), .pointer (some ⟨rb, 0, none⟩), .pointer (some ⟨ob, 0, none⟩)], .bool true], .func (.func 12) #[] #[.pointer (some ⟨kb, 0, none⟩), .pointer (some ⟨rb, 0, none⟩), .pointer (some ⟨ob, 0, none⟩)], .bool true, undef, undef, undef, undef, undef, undef, undef, undef, undef, undef, undef, undef, undef, undef], defers := [] } ∧ w' = W3.drew) ?_ ?_
        · clear hlook hcf hbk hiff hkb hrb hread hg HF HCf H3 HC3 HN HP HM HE hcnt hcntf hlen hemp hx0 hb hz hxs hpl hsr
          have hmx : Tryd.prog.follows .mixedOrders = true := by kernel_rfl
          rename_i K1 a1 K2 a2
          clear a2 a1
          gi_region_with_o (fail)
          all_goals exact ⟨rfl, rfl, rfl⟩
        · rintro e a' w' ⟨rfl, rfl, rfl⟩
          have HIF := Aside0.mk hiff
          have HRE := Aside0.mk (show Reads g k I from hread)
          have HG := Aside0.mk hg
          clear hiff hread hg hlook hlook1 hx0 hemp
          have hu28 := Tryd.underlying28
          have hBd : Below W3.heap.size W3 W3.drew := below_drew (Below.refl _ _)
          have H3d := Aside0.mk (H3.out.chg_ (S := fun _ => False) (Chg.of_below hBd) h6 hob hhi (by omega) (fun _ _ e => e) (fun _ _ e => e))
          have HCd := Aside0.mk (HC3.out.trans (Chg.of_below hBd))
          have HKB := Aside0.mk (below_cell hBd hkb)
          have HRB := Aside0.mk (below_cell hBd hrb)
          have hcall := fun (A : Option Addr) (c' : Nat) (hC : Kd.C Kd.string W3.drew A rest.length rest) (hcc : rest.length ≤ c') (hA : ∀ ad, A = some ad → ad.block < W3.drew.heap.size) =>
            add_calls (w := W3.drew) (A := A) (c := c') (kb := kb) (rb := rb) (ob := ob) (g := g) (n1 := w1.heap.size + 2) (l := rest) (k := k) (I := I) (v := v) (xs := xs) HG.out HRE.out H3d.out.errv hC hcc
              (fun y hy => Nat.le_trans (piece_size x 32 _ _ _ y (by show y ∈ fieldsOf x; rw [hsr]; exact List.mem_cons_of_mem _ hy)) (by omega)) HKB.out HRB.out H3d.out.out H3d.out.outf H3d.out.size (by have := H3d.out.size; omega) (by omega) h6 H3d.out.rows (by simp at hlen; omega) hA
          have HCA := Aside0.mk hcall
          have HDR := Aside0.mk (Kd.C_drop (m := 1) (Kd.C_below HCf.out hBd) (by simp) hcf)
          have hsr' := Aside0.mk hsr
          clear hcall hBd H3 HC3 hkb hrb hsr HCf HF HKB HRB hmb3 hs0 HM HE hcnt hcntf hev hoc hof hlen
          by_cases hcf1 : cf = 1
          · gi_wp2
            refine ⟨trivial, fun h => absurd h (by decide), ?_⟩
            refine ((callsIn_wide.2 (HCA.out _ _ ?_ ?_ ?_)).inRound l).mono ?_
            · have := HDR.out
              rw [if_pos hcf1] at this
              exact this
            · omega
            · intro ad e
              cases e
              exact hbk
            rintro e W4 ⟨ok, cs, v', rfl, hyes, hno, ho4, hof4, hR4, hC4⟩
            dsimp only
            have H4 := Aside0.mk (H3d.out.grow hC4 h6 hlo hob hhi (by omega) ho4 hof4 hR4)
            have HC4 := Aside0.mk (HCd.out.trans (hC4.mono (T := fun j => j = ob ∨ j = w.heap.size + 1 ∨ j = w.heap.size + 1 + 1 ∨ w1.heap.size + 2 ≤ j) (fun j hj => by omega)))
            have HY := Aside0.mk hyes
            have HNO := Aside0.mk hno
            obtain ⟨r, hr⟩ : ∃ r, r = (ok && decide (xs.length < 4000)) := ⟨_, rfl⟩
            have HR := Aside0.mk hr
            rw [← hr]
            have hcnt4 := H4.out.cnt
            have hglob4 := H4.out.glob
            have hres4 := H4.out.res
            have hresf4 := H4.out.resf
            have hsz4 : w.heap.size + 1 < W4.heap.size := World.block_lt_of_cell? _ _ hres4
            have hresf5 : (W4.alloc (.cells #[.int .i64 (pre.length + 1), .iface te pe] 58)).frozen? ⟨w.heap.size + 1, 0, none⟩ = false := below_frozen (al _ _) hres4 hresf4
            clear hyes hno ho4 hof4 hR4 hC4 H3d HCd HCA HDR hr
            cases r with
            | true =>
              obtain ⟨hok, hlt⟩ := Bool.and_eq_true_iff.1 HR.out.symm
              have HOK := Aside0.mk hok
              have HLT := Aside0.mk (of_decide_eq_true hlt)
              clear hok hlt
              gi_wp2
              exact ⟨HC4.out, xs ++ [itemOf cs], v', HN.out.snoc (.inr ⟨hb, cs, ⟨s, rest, hsr'.out, (HIF.out _ _).1 (HY.out HOK.out)⟩, HLT.out, rfl⟩), by simpa using H4.out⟩
            | false =>
              have HBAD := Aside0.mk (show (∀ cs, ¬ LineItem x cs) ∨ 4000 ≤ xs.length from by
                rcases Nat.lt_or_ge xs.length 4000 with h | h
                · refine .inl ?_
                  have h1 := HR.out
                  rw [decide_eq_true h, Bool.and_true] at h1
                  rintro cs' ⟨s', rest', e, hi⟩
                  rw [hsr'.out] at e
                  cases e
                  exact HNO.out h1.symm cs' ((HIF.out _ _).2 hi)
                · exact .inr h)
              gi_wp2
              exact H4.out.wrong h6 hob hhi (by omega) (.inr (.inl rfl)) HC4.out HP.out xs HN.out hb HBAD.out
          · gi_wp2
            refine ⟨trivial, fun h => absurd h (by decide), ?_⟩
            refine ((callsIn_wide.2 (HCA.out _ _ ?_ ?_ ?_)).inRound l).mono ?_
            · have := HDR.out
              rw [if_neg hcf1] at this
              exact this
            · omega
            · intro ad e
              cases e
              exact hbk
            rintro e W4 ⟨ok, cs, v', rfl, hyes, hno, ho4, hof4, hR4, hC4⟩
            dsimp only
            have H4 := Aside0.mk (H3d.out.grow hC4 h6 hlo hob hhi (by omega) ho4 hof4 hR4)
            have HC4 := Aside0.mk (HCd.out.trans (hC4.mono (T := fun j => j = ob ∨ j = w.heap.size + 1 ∨ j = w.heap.size + 1 + 1 ∨ w1.heap.size + 2 ≤ j) (fun j hj => by omega)))
            have HY := Aside0.mk hyes
            have HNO := Aside0.mk hno
            obtain ⟨r, hr⟩ : ∃ r, r = (ok && decide (xs.length < 4000)) := ⟨_, rfl⟩
            have HR := Aside0.mk hr
            rw [← hr]
            have hcnt4 := H4.out.cnt
            have hglob4 := H4.out.glob
            have hres4 := H4.out.res
            have hresf4 := H4.out.resf
            have hsz4 : w.heap.size + 1 < W4.heap.size := World.block_lt_of_cell? _ _ hres4
            have hresf5 : (W4.alloc (.cells #[.int .i64 (pre.length + 1), .iface te pe] 58)).frozen? ⟨w.heap.size + 1, 0, none⟩ = false := below_frozen (al _ _) hres4 hresf4
            clear hyes hno ho4 hof4 hR4 hC4 H3d HCd HCA HDR hr
            cases r with
            | true =>
              obtain ⟨hok, hlt⟩ := Bool.and_eq_true_iff.1 HR.out.symm
              have HOK := Aside0.mk hok
              have HLT := Aside0.mk (of_decide_eq_true hlt)
              clear hok hlt
              gi_wp2
              exact ⟨HC4.out, xs ++ [itemOf cs], v', HN.out.snoc (.inr ⟨hb, cs, ⟨s, rest, hsr'.out, (HIF.out _ _).1 (HY.out HOK.out)⟩, HLT.out, rfl⟩), by simpa using H4.out⟩
            | false =>
              have HBAD := Aside0.mk (show (∀ cs, ¬ LineItem x cs) ∨ 4000 ≤ xs.length from by
                rcases Nat.lt_or_ge xs.length 4000 with h | h
                · refine .inl ?_
                  have h1 := HR.out
                  rw [decide_eq_true h, Bool.and_true] at h1
                  rintro cs' ⟨s', rest', e, hi⟩
                  rw [hsr'.out] at e
                  cases e
                  exact HNO.out h1.symm cs' ((HIF.out _ _).2 hi)
                · exact .inr h)
              gi_wp2
              exact H4.out.wrong h6 hob hhi (by omega) (.inr (.inl rfl)) HC4.out HP.out xs HN.out hb HBAD.out
      · have hlook1 := hlook W3.drew rfl
        gi_wp2
        refine wpIn_mono (Q := fun e a' w' => e = .normal ∧ a' = { tmps := #[.string text, .map (some mb), undef, .pointer (some ⟨w.heap.size, 0, none⟩), .pointer (some ⟨w.heap.size + 1, 0, none⟩), .pointer (some ⟨w.heap.size + 1 + 1, 0, none⟩), .string x, .slice (some ⟨gf, 0, none⟩) (rest.length + 1) cf, .nilFunc, .bool false, .string text,
          .func (.func 38) #[] #[.pointer (some ⟨pB, 0, none⟩), .pointer (some ⟨sB, 0, none⟩), .pointer (some ⟨vB, 0, none⟩)], .string x, .int .i64 pre.length, .int .i64 (pre.length + 1), .string x, .bool false, .bool false, .string x, .int .u8 x[0].toNat, .bool false, .bool false, .string x, .slice (some ⟨gf, 0, none⟩) (rest.length + 1) cf,
          .tuple #[.nilFunc, .bool false], .map (some mb), .slice (some ⟨gf, 0, none⟩) (rest.length + 1) cf, .pointer (some ⟨gf, 0, none⟩), .string s, .tuple #[.nilFunc, .bool false], .nilFunc, .bool false, undef, undef, undef, undef, undef, undef, undef, undef, undef, undef, undef, undef, undef, undef], defers := [] } ∧ w' = W3.drew) ?_ ?_
        · clear hlook hcf hbk hno HF HCf H3 HC3 HN HP HM HE hcnt hcntf hlen hemp hx0 hb hz hxs hpl hsr
          have hmx : Tryd.prog.follows .mixedOrders = true := by kernel_rfl
          rename_i K1 a1 K2 a2
          clear a2 a1
          gi_region_with_o (fail)
          all_goals exact ⟨rfl, rfl, rfl⟩
        · rintro e a' w' ⟨rfl, rfl, rfl⟩
          have HBAD := Aside0.mk (show (∀ cs, ¬ LineItem x cs) ∨ 4000 ≤ xs.length from .inl (by
            rintro cs' ⟨s', rest', e, hi⟩
            rw [hsr] at e
            cases e
            exact hno _ _ hi))
          have hBd : Below W3.heap.size W3 W3.drew := below_drew (Below.refl _ _)
          have H3d := Aside0.mk (H3.out.chg_ (S := fun _ => False) (Chg.of_below hBd) h6 hob hhi (by omega) (fun _ _ e => e) (fun _ _ e => e))
          have HCd := Aside0.mk (HC3.out.trans (Chg.of_below hBd))
          have hcnt4 := H3d.out.cnt
          have hglob4 := H3d.out.glob
          have hres4 := H3d.out.res
          have hresf4 := H3d.out.resf
          have hsz4 : w.heap.size + 1 < W3.drew.heap.size := World.block_lt_of_cell? _ _ hres4
          have hresf5 : (W3.drew.alloc (.cells #[.int .i64 (pre.length + 1), .iface te pe] 58)).frozen? ⟨w.heap.size + 1, 0, none⟩ = false := below_frozen (al _ _) hres4 hresf4
          clear hno hlook hlook1 hx0 hemp hlen hcnt hcntf hev hoc hof hmb3 hs0 H3 HC3 HF HCf hBd hsr
          generalize W3.drew = Wd at H3d HCd hcnt4 hglob4 hres4 hresf4 hsz4 hresf5 ⊢
          gi_wp2_with (refine wpListIn_pass (fun _ => trivial) rfl ?_)
          exact H3d.out.wrong h6 hob hhi (by omega) (.inr (.inl rfl)) HCd.out HP.out xs HN.out hb HBAD.out
  case done =>
    rintro W ⟨xs, v, hrn, h⟩ hK
    have hres := h.res
    have hresf := h.resf
    have H := Aside0.mk h
    clear h
    gi_wp2
    refine ⟨by simp, .inl ⟨_, _, rfl, run_takeDeferred ((Chg.set (S := fun k => k = w.heap.size + 1) W ⟨w.heap.size + 1, 0, none⟩ .nilIface rfl).block hK (by omega)), ?_⟩⟩
    have hC : Chg (fun k => k = w.heap.size + 1 ∨ k = w1.heap.size) W ((W.setCell ⟨w.heap.size + 1, 0, none⟩ .nilIface).putObj w1.heap.size (.deferred none)) := (Chg.set _ _ _ (.inl rfl)).trans (Chg.putObj _ _ _ (.inr rfl))
    have hw : Chg (fun k => k = ob) w ((W.setCell ⟨w.heap.size + 1, 0, none⟩ .nilIface).putObj w1.heap.size (.deferred none)) := ⟨hC.os.trans H.out.chg.os, hC.tape.trans H.out.chg.tape, hC.output.trans H.out.chg.output, Nat.le_trans H.out.chg.size hC.size, fun k hk hn => (hC.same k (Nat.lt_of_lt_of_le hk H.out.chg.size) (by omega)).trans (H.out.chg.same k hk hn)⟩
    refine ⟨_, results_box39 rfl _ _ (w.heap.size + 1) _ rfl ((Chg.putObj (S := fun k => k = w1.heap.size) _ _ _ rfl).cell (World.cell?_setCell_same' _ _ _ (by rw [hres]; rfl)) (by simp; omega)), .inl ⟨xs, v, rfl, hrn, hC.cell H.out.out (by simp; omega), Kd.R_lower (rows_step H.out.rows (fun k hk => hC.same k (Kd.R_lt H.out.rows k hk) (by have := Kd.R_base H.out.rows k hk; simp; omega))) (by omega), hw⟩⟩
  case stop =>
    rintro W ⟨b, line, hbad, hr, hl, hb, hch⟩ hK
    gi_wp2
    refine ⟨by simp, .inl ⟨_, _, rfl, run_takeDeferred hK, ?_⟩⟩
    have hC : Chg (fun k => k = w1.heap.size) W (W.putObj w1.heap.size (.deferred none)) := Chg.putObj _ _ _ rfl
    have hw : Chg (fun k => k = ob) w (W.putObj w1.heap.size (.deferred none)) := ⟨hC.os.trans hch.os, hC.tape.trans hch.tape, hC.output.trans hch.output, Nat.le_trans hch.size hC.size, fun k hk hn => (hC.same k (Nat.lt_of_lt_of_le hk hch.size) (by omega)).trans (hch.same k hk hn)⟩
    refine ⟨_, results_box39 rfl _ _ (w.heap.size + 1) _ rfl (hC.cell hr (by simp; omega)), .inr ⟨b, line, rfl, hbad, hC.cell hl (by simp; omega), by omega, hw⟩⟩
end Go.Proofs.YtbdpnimfkogajaaDoor.Txt
