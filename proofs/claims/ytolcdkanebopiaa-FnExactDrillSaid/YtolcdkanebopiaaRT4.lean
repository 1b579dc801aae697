/- Proved here: what impl's tree gives: its nodes where the states are a right tree, else a fault. -/
import Derived.Test.YtolcdkanebopiaaRT3
import Derived.Deep.AppendLies
import Derived.Deep.RegionLaw
import Derived.Outline
namespace Go.Proofs.Ytolcdkanebopiaa.Tree
open Go.RowKit Go.Proofs.YtolcdkanebopiaaW.PrintWords Go.Proofs.YtolcdkanebopiaaW.PrintLast Go.Proofs.YtolcdkanebopiaaW.PrintMore Go.Proofs.Ytolcdkanebopiaa.PFnExactDomain
set_option linter.unusedVariables false
set_option linter.unusedSimpArgs false
theorem within_yes {x lo hi : Int} (w : World) (h : lo ≤ x) (h2 : x ≤ hi) : Calls Try.prog 26 #[.int .i64 x, .int .i64 lo, .int .i64 hi] w fun e w' => e = .returned (.bool true) ∧ ∃ q, w' = w.drewN q :=
  (impl_within.calls x lo hi true w (by unfold impl_within.f; rw [if_pos h, decide_eq_true h2])).mono fun _ _ ⟨h, d⟩ => ⟨h, d.out⟩
theorem within_no {x lo hi : Int} (w : World) (h : ¬ (lo ≤ x ∧ x ≤ hi)) : Calls Try.prog 26 #[.int .i64 x, .int .i64 lo, .int .i64 hi] w fun e w' => e = .returned (.bool false) ∧ ∃ q, w' = w.drewN q :=
  (impl_within.calls x lo hi false w (by
    unfold impl_within.f
    by_cases h1 : lo ≤ x
    · rw [if_pos h1, decide_eq_false (fun h2 => h ⟨h1, h2⟩)]
    · rw [if_neg h1])).mono fun _ _ ⟨h, d⟩ => ⟨h, d.out⟩
def parS (S : List S76) (i : Nat) : Int := (rd_T76 S i).f0
def iniS (S : List S76) (i : Nat) : Int := (rd_T76 S i).f1
theorem at_n {w wr : World} {A : Option Addr} {S : List S76} (h : Kd.C k76 w A S.length S) (hB : Below w.heap.size w wr) (m : Nat) (hm : m < S.length) : ∃ ad A2 n2 c2 A3 n3 c3, A = some ad ∧ wr.cell? (ad.add (m * 4)) = some (.int .i64 (parS S m)) ∧ wr.cell? ⟨(ad.add (m * 4)).block, (ad.add (m * 4)).off + 1, none⟩ = some (.int .i64 (iniS S m)) ∧
    wr.cell? ⟨(ad.add (m * 4)).block, (ad.add (m * 4)).off + 2, none⟩ = some (.slice A2 n2 c2) ∧ wr.cell? ⟨(ad.add (m * 4)).block, (ad.add (m * 4)).off + 3, none⟩ = some (.slice A3 n3 c3) := by
  obtain ⟨ad, A2, c2, A3, c3, e0, x0, x1, x2, x3, _⟩ := at_T76 h m (by omega) (by omega)
  rw [Int.toNat_natCast] at x0 x1 x2 x3
  refine ⟨ad, A2, (rd_T76 S m).f2.length, c2, A3, (rd_T76 S m).f3.length, c3, e0, ?_, ?_, ?_, ?_⟩
  · exact (hB.cell (World.block_lt_of_cell? w _ x0)).trans x0
  · exact (hB.cell (World.block_lt_of_cell? w _ x1)).trans x1
  · exact (hB.cell (World.block_lt_of_cell? w _ x2)).trans x2
  · exact (hB.cell (World.block_lt_of_cell? w _ x3)).trans x3
def ParOK (S : List S76) (i : Nat) : Prop := (i = 0 ∧ parS S i = -1) ∨ (0 < i ∧ 0 ≤ parS S i ∧ parS S i ≤ (i : Int) - 1)
theorem ParOK.lt {S : List S76} {i : Nat} (h : ParOK S i) : parS S i < i := by unfold ParOK at h; omega
def HasKid (S : List S76) (i : Nat) : Prop := ∃ j, j < S.length ∧ parS S j = i
def DepOK (S : List S76) (i : Nat) : Prop := (up (parS S) i).length ≤ 16
def IniOK (S : List S76) (i : Nat) : Prop := (¬ HasKid S i ∧ iniS S i = -1) ∨ (HasKid S i ∧ 0 ≤ iniS S i ∧ iniS S i ≤ (S.length : Int) - 1 ∧ parS S (iniS S i).toNat = i)
structure Good (S : List S76) (T : List S80) : Prop where
  n1 : 1 ≤ S.length
  n2 : S.length ≤ 200
  t : T.length ≤ 500
  par : ∀ i, i < S.length → ParOK S i
  dep : ∀ i, i < S.length → DepOK S i
  ini : ∀ i, i < S.length → IniOK S i
def TreePost (S : List S76) (T : List S80) (w : World) (e : Ending) (w' : World) : Prop :=
  Below w.heap.size w w' ∧ ((Good S T ∧ ∃ A c B ch, e = .returned (.tuple #[.slice A S.length c, .int .i64 0, .int .i64 0]) ∧ Rd w' A (ptrs B (List.range S.length)) ∧ Fam w' S.length B (parS S) (iniS S) ch) ∨
    (¬ Good S T ∧ ∃ c p : Int, c ≠ 0 ∧ e = .returned (.tuple #[.slice none 0 0, .int .i64 c, .int .i64 p])))
theorem tp_fault {S : List S76} {T : List S80} {w w' : World} {e : Ending} (hB : Below w.heap.size w w') (hn : ¬ Good S T) (c p : Int) (hc : c ≠ 0) (he : e = .returned (.tuple #[.slice none 0 0, .int .i64 c, .int .i64 p])) : TreePost S T w e w' :=
  ⟨hB, Or.inr ⟨hn, c, p, hc, he⟩⟩
theorem tp_good {S : List S76} {T : List S80} {w w' : World} {e : Ending} {A : Option Addr} {c : Nat} {B : Nat → Nat} {ch : Nat → Value} (hB : Below w.heap.size w w') (hg : Good S T) (hr : Rd w' A (ptrs B (List.range S.length))) (hf : Fam w' S.length B (parS S) (iniS S) ch)
    (he : e = .returned (.tuple #[.slice A S.length c, .int .i64 0, .int .i64 0])) : TreePost S T w e w' :=
  ⟨hB, Or.inl ⟨hg, A, c, B, ch, he, hr, hf⟩⟩
theorem node_set {w : World} {g m b : Nat} {B : Nat → Nat} {pr : Int} {p : Nat} (h : w.heap[g]? = some (.cells #[.int .i64 m, .pointer none, .pointer none, .slice none 0 0] 55 (0, 0))) (hp : pr = p) (hb : B p = b) :
    (w.setCell ⟨g, 1, none⟩ (.pointer (some ⟨b, 0, none⟩))).heap[g]? = some (nodeObj B m pr (-1) (.slice none 0 0)) := by
  subst hb
  simp only [World.setCell, Array.getElem?_modify, h]
  simp [nodeObj, hp, pto]
theorem node_none {w : World} {g m : Nat} {B : Nat → Nat} {pr : Int} (h : w.heap[g]? = some (.cells #[.int .i64 m, .pointer none, .pointer none, .slice none 0 0] 55 (0, 0))) (hp : pr < 0) :
    w.heap[g]? = some (nodeObj B m pr (-1) (.slice none 0 0)) := by
  rw [h]; simp [nodeObj, hp, pto]
theorem node_far {w w8 : World} {o : Obj} {B : Nat → Nat} {b i : Nat} {p q : Int} {c v : Value} {base n : Nat} {xs : List Value} (hn : w.heap[b]? = some (nodeObj B i p q c)) (ho : w.ownsRow base 52 1 v n xs) (hg : (w.drew.alloc o).grownBy w8 v.ownBlock) : w8.heap[b]? = some (nodeObj B i p q c) := by
  have hlt := blk_lt hn
  rw [hg.block b (by simp; omega) (fun e => owns_ne_node ho hn e.symm), heap_alloc_old w.drew o hlt]
  exact hn
theorem child_done {base m p gn g cap nc cc : Nat} {w4 wr w7 w8 : World} {o : Obj} {S : List S76} {B : Nat → Nat} {ch : Nat → Value} {v : Value} {Ac : Option Addr} {xs : List Value} {new : Value}
    (HT : Bt base w7 (parS S) (m + 1) m m (upd B m gn) (upd ch m (.slice none 0 0)) v) (hp : p < m) (hpar : parS S m = p) (ho : w7.ownsRow base 52 1 (upd ch m (.slice none 0 0) p) nc xs) (hnc : nc ≤ m) (ec : upd ch m (.slice none 0 0) p = .slice Ac nc cc)
    (hown : w8.ownsRow base 52 1 (.slice (some ⟨g, 0, none⟩) (nc + 1) cap) (nc + 1) (xs ++ [new])) (hg : (w7.drew.alloc o).grownBy w8 (.slice Ac nc cc : Value).ownBlock) (hat : (.slice Ac nc cc : Value).ownBlock = some g ∨ g = (w7.drew.alloc o).heap.size)
    (hB : Below base w4 wr) (hb4 : base ≤ wr.heap.size) (hB7 : Below wr.heap.size wr w7) :
    (∃ ch' : Nat → Value, Aside0 (Bt base (w8.setCell ⟨B p, 3, none⟩ (.slice (some ⟨g, 0, none⟩) (nc + 1) cap)) (parS S) (m + 1) (m + 1) m (upd B m gn) ch' v)) ∧ Aside0 (Below base w4 (w8.setCell ⟨B p, 3, none⟩ (.slice (some ⟨g, 0, none⟩) (nc + 1) cap))) := by
  have hA : Below w7.heap.size w7 (w7.drew.alloc o) := (Below.refl _ _).drew.alloc (Nat.le_refl _) _
  have hc := (HT.below hA).child (p := p) (by omega) hpar (owns_below ho hA) hnc hown (by rw [ec]; exact hg) (by rw [ec]; exact hat)
  have hlow := HT.low p (by omega)
  rw [upd_other _ _ (by omega)] at hc hlow
  have h7 := hB7.size
  refine ⟨⟨_, ⟨hc⟩⟩, ⟨((((hB.trans (hB7.mono hb4)).trans (hA.mono (by omega))).grown hg (by simp; omega) (fun k hk => (ho.lt k (by rw [ec]; exact hk)).1)).setCell hlow _)⟩⟩
section
variable {P : Program} (w : World)
theorem run_neq_ptr_same {tp te : TypeId} {j : TypeInfo} (a : Addr) (hp : P.underlying tp = some (.pointer te)) (hte : P.info? te = some j) :
    (binOp .neq tp (.pointer (some a)) (.pointer (some a))).run P w = .ok (.bool false) w := by
  have h : ∀ d : Nat, (Op.equalIn (d + 1) tp (.pointer (some a)) (.pointer (some a))).run P w = .ok true w := fun d => by
    simp [Op.equalIn, run_underlying hp, sizeOf, typeInfo, hte, run_sameAddr_same]
  simp only [binOp]
  simp [Op.equal, Op.maxDepth, h 9999]
theorem run_neq_ptr_other {tp te : TypeId} {j : TypeInfo} {a b : Addr} {ca cb : Array Value} {ta tb : TypeId} (hp : P.underlying tp = some (.pointer te)) (hte : P.info? te = some j) (hsz : j.size ≠ 0)
    (hne : a ≠ b) (ha : w.heap[a.block]? = some (.cells ca ta (0, 0))) (hb : w.heap[b.block]? = some (.cells cb tb (0, 0))) :
    (binOp .neq tp (.pointer (some a)) (.pointer (some b))).run P w = .ok (.bool true) w := by
  have h : ∀ d : Nat, (Op.equalIn (d + 1) tp (.pointer (some a)) (.pointer (some b))).run P w = .ok false w := fun d => by
    simp [Op.equalIn, run_underlying hp, sizeOf, typeInfo, hte, hsz, run_sameAddr_other w hne ha hb]
  simp only [binOp]
  simp [Op.equal, Op.maxDepth, h 9999]
theorem run_neq_nil_ptr {tp te : TypeId} (b : Addr) (hp : P.underlying tp = some (.pointer te)) :
    (binOp .neq tp (.pointer none) (.pointer (some b))).run P w = .ok (.bool true) w := by
  have h : ∀ d : Nat, (Op.equalIn (d + 1) tp (.pointer none) (.pointer (some b))).run P w = .ok false w := fun d => by
    simp [Op.equalIn, run_underlying hp]
  simp only [binOp]
  simp [Op.equal, Op.maxDepth, h 9999]
end
theorem Fam.neq_parent {w : World} {n : Nat} {B : Nat → Nat} {par ini : Nat → Int} {ch : Nat → Value} (h : Fam w n B par ini ch) {q m : Nat} (hm : m < n) (hq : par q < n) :
    (binOp .neq 52 (.pointer (pto B (par q))) (.pointer (some ⟨B m, 0, none⟩))).run Try.prog w = .ok (.bool (!decide (par q = m))) w := by
  obtain ⟨j, hj, hs⟩ := info55'
  by_cases hn : par q < 0
  · rw [pto_neg hn, decide_eq_false (by omega)]
    exact run_neq_nil_ptr w _ Try.underlying52
  · rw [pto_pos (by omega)]
    by_cases e : par q = m
    · rw [decide_eq_true e, e, Int.toNat_natCast]
      exact run_neq_ptr_same w _ Try.underlying52 hj
    · rw [decide_eq_false e]
      exact run_neq_ptr_other w Try.underlying52 hj (by omega) (fun e2 => e (by have := h.inj (i := (par q).toNat) (by omega) hm (by injection e2); omega)) (h (par q).toNat (by omega)) (h m hm)
theorem fam_ini {w : World} {n m q : Nat} {B : Nat → Nat} {par : Nat → Int} {iS : Nat → Int} {ch : Nat → Value} (h : Fam w n B par (fun j => if j < m then iS j else -1) ch) (hm : m < n) (hq : iS m = q) :
    Fam (w.setCell ⟨B m, 2, none⟩ (.pointer (some ⟨B q, 0, none⟩))) n B par (fun j => if j < m + 1 then iS j else -1) ch := by
  intro i hi
  by_cases e : i = m
  · subst e
    have := h i hi
    simp only [World.setCell, Array.getElem?_modify, this]
    simp [nodeObj, hq, pto]
  · rw [Below.heap_setCell _ _ _ _ (fun e2 => e (h.inj hi hm e2)), h i hi]
    unfold nodeObj
    dsimp only
    by_cases e3 : i < m
    · rw [if_pos e3, if_pos (by omega)]
    · rw [if_neg e3, if_neg (by omega)]
theorem fam_same {w : World} {n m : Nat} {B : Nat → Nat} {par : Nat → Int} {iS : Nat → Int} {ch : Nat → Value} (h : Fam w n B par (fun j => if j < m then iS j else -1) ch) (hq : iS m = -1) :
    Fam w n B par (fun j => if j < m + 1 then iS j else -1) ch := by
  intro i hi
  rw [h i hi]
  unfold nodeObj
  dsimp only
  by_cases e : i = m
  · subst e; rw [if_neg (by omega), if_pos (by omega), hq]
  · by_cases e3 : i < m
    · rw [if_pos e3, if_pos (by omega)]
    · rw [if_neg e3, if_neg (by omega)]
theorem fam_all {w : World} {n : Nat} {B : Nat → Nat} {par : Nat → Int} {iS : Nat → Int} {ch : Nat → Value} (h : Fam w n B par (fun j => if j < n then iS j else -1) ch) : Fam w n B par iS ch := by
  intro i hi
  rw [h i hi]
  unfold nodeObj
  dsimp only
  rw [if_pos hi]
theorem rd_set {w : World} {ad : Addr} {xs : List Value} {b k : Nat} {u : Value} (h : Rd w (some ad) xs) (hne : ad.block ≠ b) : Rd (w.setCell ⟨b, k, none⟩ u) (some ad) xs := by
  intro i v hv
  obtain ⟨a2, e, hc⟩ := h i v hv
  cases e
  refine ⟨ad, rfl, ?_⟩
  rw [← hc]
  have hb : (ad.add i).block = ad.block := by unfold Addr.add; split <;> rfl
  exact World.cell?_of_block (Below.heap_setCell w _ u _ (by rw [hb]; exact hne))
theorem kids_form {base : Nat} {w : World} {S : List S76} {B : Nat → Nat} {ch : Nat → Value} {v : Value} (h : Bt base w (parS S) S.length S.length S.length B ch v) : ∀ i, i < S.length → ∃ A q c, ch i = .slice A q c ∧ q ≤ S.length ∧ (q = 0 ↔ ¬ HasKid S i) := by
  intro i hi
  obtain ⟨n, xs, a, b, c⟩ := h.kids i hi
  obtain ⟨A, cc, e, _⟩ := rd_of_owns a
  refine ⟨A, n, cc, e, b, c.trans ⟨fun f ⟨j, hj, e⟩ => f j hj e, fun f j hj e => f ⟨j, hj, e⟩⟩⟩
theorem all_done {base m gn : Nat} {w4 wc w9 : World} {o : Obj} {par : Nat → Int} {B : Nat → Nat} {ch : Nat → Value} {v v9 : Value}
    (h : Bt base wc par (m + 1) (m + 1) m (upd B m gn) ch v) (hB : Below base w4 wc) (hb : w4.heap.size ≤ wc.heap.size) 
    (hown : w9.ownsRow base 52 1 v9 (m + 1) (ptrs (upd B m gn) (List.range m) ++ [.pointer (some ⟨gn, 0, none⟩)])) (hg : (wc.alloc o).grownBy w9 v.ownBlock) (hat : v9.ownBlock = v.ownBlock ∨ v9.ownBlock = some (wc.alloc o).heap.size) (hb2 : base ≤ wc.heap.size := by omega) :
    Bt base w9 par (m + 1) (m + 1) (m + 1) (upd B m gn) ch v9 ∧ Below base w4 w9 := by
  have hA : Below wc.heap.size wc (wc.alloc o) := (Below.refl _ _).alloc (Nat.le_refl _) _
  refine ⟨(h.below hA).all (by rw [upd_same]; exact hown) hg hat, ((hB.trans (hA.mono hb2)).grown hg (by simp; omega) (fun k hk => (h.nodes.lt k hk).1))⟩
set_option maxHeartbeats 4000000 in
set_option maxRecDepth 100000 in
theorem tree_calls {w : World} {A0 A1 : Option Addr} {c0 c1 : Nat} (S : List S76) (T : List S80) (hr0 : Kd.C k76 w A0 S.length S) (hc0 : S.length ≤ c0) (hr1 : Kd.C k80 w A1 T.length T) (hc1 : T.length ≤ c1) :
    Calls Try.prog 25 #[.agg #[.slice A0 S.length c0, .slice A1 T.length c1], .agg #[.int .i64 0, .int .i64 0, .int .i64 0, .int .i64 0]] w fun e w' => TreePost S T w e w' := by
  have hu31 := Try.underlying31
  have hu50 := Try.underlying50
  have hu76 := Try.underlying76
  have hu55 := Try.underlying55
  have hu46 := Try.underlying46
  obtain ⟨i0, hi0, hz0, hz1, hz2⟩ := info_parts info52
  have HI := Aside0.mk hi0
  have HZ0 := Aside0.mk hz0
  have HZ1 := Aside0.mk hz1
  have HZ2 := Aside0.mk hz2
  clear hi0 hz0 hz1 hz2
  have HR := Aside0.mk hr0
  clear hr0 hr1
  have HB := Aside0.mk (Below.refl w.heap.size w)
  by_cases h1 : 1 ≤ S.length ∧ S.length ≤ 200
  · by_cases h2 : T.length ≤ 500
    · have h2' : decide ((500 : Int) < T.length) = false := decide_eq_false (by omega)
      go_enter Try.func25, Try.ntmps25
      go_wp2_with (first
        | ((with_reducible refine gate_dst (N := 2) rfl ?_); refine box_event ?hg (N := 2) ?hd (cs := #[.slice A0 S.length c0, .slice A1 T.length c1]) (t := 31) ?hr ?_; (case hd => rfl); (case hg => rfl); (case hr => first | (go_simp; done) | (go_simp; rfl)); intro gc hgc w1 hbc hb; have HBC := Aside0.mk hbc; have HGC := Aside0.mk hgc; have n_ := Aside0.mk (HB.out.trans hb); clear HB; have HB := n_; clear n_ hbc hgc hb)
        | ((with_reducible refine gate_dst (N := 3) rfl ?_); refine box_event ?hg (N := 3) ?hd (cs := #[.int .i64 0, .int .i64 0, .int .i64 0, .int .i64 0]) (t := 50) ?hr ?_; (case hd => rfl); (case hg => rfl); (case hr => first | (go_simp; done) | (go_simp; rfl)); intro gl hgl w2 hbl hb; have HBL := Aside0.mk hbl; have HGL := Aside0.mk hgl; have n_ := Aside0.mk (HB.out.trans (hb.mono HB.out.size)); clear HB; have HB := n_; clear n_; have n_ := Aside0.mk ((hb.block _ (blk_lt HBC.out)).trans HBC.out); clear HBC; have HBC := n_; clear n_ hbl hgl hb; have hcc0 := (blkc HBC.out 0).trans rfl; have hcc1 := (blkc HBC.out 1).trans rfl; have hl0 := (blkc HBL.out 0).trans rfl; have hl1 := (blkc HBL.out 1).trans rfl; have hl2 := (blkc HBL.out 2).trans rfl; have hl3 := (blkc HBL.out 3).trans rfl)
        | (go_at_call 26; refine (within_yes _ (by omega) (by omega)).mono ?_; rintro e w3 ⟨rfl, q1, rfl⟩)
        | (go_at_call 45; refine (impl_Limits_ok.calls 0 0 0 0 true _ (by decide)).mono ?_; rintro e w4 ⟨rfl, hb⟩; have n_ := Aside0.mk (HB.out.trans (show Below w.heap.size w2 w4 from ⟨hb.os, hb.tape, hb.output, hb.size, fun k hk => hb.block k (by have := HB.out.size; exact Nat.lt_of_lt_of_le hk this)⟩)); clear HB; have HB := n_; clear n_; have n_ := Aside0.mk ((hb.block _ (blk_lt HBC.out)).trans HBC.out); clear HBC; have HBC := n_; clear n_ hb; have hcd0 := (blkc HBC.out 0).trans rfl))
      clear hcc0 hcc1 hl0 hl1 hl2 hl3 HBL HGL hcd0
      go_loopg [7, 35] S.length (fun k v i wr => ∃ (m : Nat) (B : Nat → Nat) (ch : Nat → Value), i = .int .i64 m ∧ m ≤ S.length ∧ Aside0 (k = S.length - m) ∧ Aside0 (∀ j, j < m → ParOK S j) ∧ Aside0 (Below w4.heap.size w4 wr) ∧ Aside0 (Bt w4.heap.size wr (parS S) m m m B ch v))
      case atStart => exact ⟨0, fun _ => 0, fun _ => .slice none 0 0, rfl, Nat.zero_le _, ⟨rfl⟩, ⟨fun j hj => absurd hj (Nat.not_lt_zero _)⟩, ⟨Below.refl _ _⟩, ⟨⟨fun i hi => absurd hi (Nat.not_lt_zero _), fun i hi => absurd hi (Nat.not_lt_zero _), World.ownsRow_nil _ _ _ _, fun i hi => absurd hi (Nat.not_lt_zero _), fun i hi => absurd hi (Nat.not_lt_zero _), fun i j hi => absurd hi (Nat.not_lt_zero _)⟩⟩⟩
      case round =>
        obtain ⟨m, B, ch, rfl, hm, hk, hpo, hB4, hbt⟩ := hrel
        have HB5 := Aside0.mk (HB.out.trans (hB4.out.mono HB.out.size))
        have HBC5 := Aside0.mk ((hB4.out.block _ (blk_lt HBC.out)).trans HBC.out)
        by_cases hlt : m < S.length
        · obtain ⟨ad, A2, n2, c2, A3, n3, c3, e0, x0, x1, x2, x3⟩ := at_n HR.out HB5.out m hlt
          cases e0
          obtain ⟨p, hp⟩ : ∃ p, parS S m = p := ⟨_, rfl⟩
          obtain ⟨qi, hqi⟩ : ∃ q, iniS S m = q := ⟨_, rfl⟩
          rw [hp] at x0
          rw [hqi] at x1
          have HP := Aside0.mk hp
          clear hp hqi
          have hbsz := hB4.out.size
          by_cases hm0 : m = 0
          · have hmz : ((m : Int) == 0) = true := beq_iff_eq.2 (by omega)
            have hml : (m : Int) ≤ 0 := by omega
            have HM0 := Aside0.mk hm0
            clear hm0
            by_cases hp1 : p = -1
            · subst hp1
              have hpar : Aside0 (∀ i, i ≤ m → parS S i < i) := ⟨fun i hi => by
                obtain rfl : i = m := by omega
                rw [HP.out]; omega⟩
              obtain ⟨Av, cv, ev, hcv, _, hrd⟩ := rd_of_owns hbt.out.nodes
              cases ev
              clear hrd
              go_wp2_with (first
                | ((with_reducible refine gate_dst (N := 42) rfl ?_); refine box_event ?hg (N := 42) ?hd (cs := #[.int .i64 m, .pointer none, .pointer none, .slice none 0 0]) (t := 55) ?hr ?_; (case hd => rfl); (case hg => rfl); (case hr => first | (go_simp; done) | (go_simp; rfl)); intro gn hgn w5 hbn hb5; have HGN := Aside0.mk (show wr.heap.size ≤ gn from by rw [hgn]; simp); have hc9 := (hb5.cell (p := ⟨wr.heap.size, 0, none⟩) (by simp)).trans ((blkc (blk_new wr (.cells #[.int .i64 (-1), .int .i64 qi, .slice A2 n2 c2, .slice A3 n3 c3] 76)) 0).trans rfl); have HB6 := Aside0.mk (((Below.refl wr.heap.size wr).alloc (Nat.le_refl _) _).trans (hb5.mono (by simp))); have HT := Aside0.mk (((hbt.out.node (Nat.le_refl _) (Nat.le_refl _) hpar.out hbsz HB6.out HGN.out (node_none hbn (by rw [HP.out]; omega))).root (by rw [HP.out]; omega))); have HB8 := Aside0.mk (hB4.out.trans (HB6.out.mono hbsz)); have hsz5 := HB8.out.size; clear hbn hgn hb5 x0 x1 x2 x3)
                | (at_builtin; refine wpList_append_own_at _ rfl _ _ 46 rfl w4.heap.size 52 i0 (.pointer none) 1 8 Try.underlying46 HI.out HZ0.out HZ1.out HZ2.out rfl (by decide) (.slice Av m cv) m (ptrs (upd B m gn) (List.range m)) rfl (HT.out.nodes.alloc _) ⟨w5.heap.size, 0, none⟩ 1 1 [.pointer (some ⟨gn, 0, none⟩)] rfl rfl (cell_one_new _ _ _) (one_cell_ptr _) (by unfold maxLen; omega) (by omega) (by simp; omega) ?_; intro v9 w9 hown9 hg9 hnil9 hat9; clear hnil9; have H9 := Aside0.mk (all_done HT.out HB8.out hsz5 hown9 hg9 hat9); clear hown9 hg9 hat9 HB8 HB6))
              go_roundg (S.length - (m + 1))
              case measure => have := hk.out; omega
              case rel => exact ⟨m + 1, upd B m gn, _, by go_num, by omega, ⟨rfl⟩, ⟨fun j hj => by
                obtain rfl : j = m := by omega
                exact Or.inl ⟨HM0.out, HP.out⟩⟩, ⟨H9.out.2⟩, ⟨H9.out.1⟩⟩
            · have hng : ¬ Good S T := fun g => hp1 (by have := g.par m hlt; unfold ParOK at this; rw [HP.out] at this; omega)
              have HNG := Aside0.mk hng
              have hpz : (p != -1) = true := bne_iff_ne.2 hp1
              clear hng
              go_wp2_with (first
                | ((with_reducible refine gate_dst (N := 42) rfl ?_); refine box_event ?hg (N := 42) ?hd (cs := #[.int .i64 m, .pointer none, .pointer none, .slice none 0 0]) (t := 55) ?hr ?_; (case hd => rfl); (case hg => rfl); (case hr => first | (go_simp; done) | (go_simp; rfl)); intro gn hgn w5 hbn hb5; have hc9 := (hb5.cell (p := ⟨wr.heap.size, 0, none⟩) (by simp)).trans ((blkc (blk_new wr (.cells #[.int .i64 p, .int .i64 qi, .slice A2 n2 c2, .slice A3 n3 c3] 76)) 0).trans rfl); have HB6 := Aside0.mk (((Below.refl wr.heap.size wr).alloc (Nat.le_refl _) _).trans (hb5.mono (by simp))); clear hbn hgn hb5 x0 x1 x2 x3))
              go_ret3
              exact tp_fault (HB5.out.trans (HB6.out.mono HB5.out.size)) HNG.out 2 m (by decide) rfl
          · by_cases hp1 : 0 ≤ p ∧ p ≤ (m : Int) - 1
            · obtain ⟨hp0, hpm⟩ := hp1
              obtain ⟨p, rfl⟩ := Int.eq_ofNat_of_zero_le hp0
              have hmz : ((m : Int) == 0) = false := beq_eq_false_iff_ne.2 (by omega)
              have hpar : Aside0 (∀ i, i ≤ m → parS S i < i) := ⟨fun i hi => by
                by_cases e : i = m
                · rw [e, HP.out]; omega
                · exact (hpo.out i (by omega)).lt⟩
              obtain ⟨Av, cv, ev, hcv, _, hrd⟩ := rd_of_owns hbt.out.nodes
              cases ev
              obtain ⟨adv, eav, hxv⟩ := rd_ptr hrd (List.getElem?_range (show p < m by omega))
              cases eav
              have hbv := World.block_lt_of_cell? wr _ hxv
              clear hrd
              go_wp2_with (first
                | ((with_reducible refine gate_dst (N := 42) rfl ?_); refine box_event ?hg (N := 42) ?hd (cs := #[.int .i64 m, .pointer none, .pointer none, .slice none 0 0]) (t := 55) ?hr ?_; (case hd => rfl); (case hg => rfl); (case hr => first | (go_simp; done) | (go_simp; rfl)); intro gn hgn w5 hbn hb5; have HBN := Aside0.mk hbn; have HGN := Aside0.mk (show wr.heap.size ≤ gn from by rw [hgn]; simp); have hc9 := (hb5.cell (p := ⟨wr.heap.size, 0, none⟩) (by simp)).trans ((blkc (blk_new wr (.cells #[.int .i64 p, .int .i64 qi, .slice A2 n2 c2, .slice A3 n3 c3] 76)) 0).trans rfl); have HB6 := Aside0.mk (((Below.refl wr.heap.size wr).alloc (Nat.le_refl _) _).trans (hb5.mono (by simp))); have hxv6 := (HB6.out.cell hbv).trans hxv; have hn1 := (blkc HBN.out 1).trans rfl; have hf1 := blkf HBN.out 1; clear hbn hgn hb5 x0 x1 x2 x3 hxv)
                | (go_at_call 26; refine (within_yes _ (by omega) (by omega)).mono ?_; rintro e w6 ⟨rfl, q6, rfl⟩)
                | ((with_reducible refine gate_store (t := 52) (p := 72) rfl ?_); refine store_event (t := 52) (p := 72) (v := .tmp 70) (w1 := ((w5.drewN q6).setCell ⟨gn, 1, none⟩ (.pointer (some ⟨B p, 0, none⟩)))) ?hg ?ho ?hn ?hr ?_; (case ho => rfl); (case hg => rfl); (case hn => rfl); (case hr => first | (go_simp; done) | (go_simp; rfl)); intro w7 hw7; have HW7 := Aside0.mk hw7; clear hw7))
              have HB7 := Aside0.mk (show Below wr.heap.size wr w7 from by rw [HW7.out]; exact (below_drewN HB6.out q6).setCell HGN.out _)
              have HN7 := Aside0.mk (show w7.heap[gn]? = some (nodeObj B m (parS S m) (-1) (.slice none 0 0)) from by rw [HW7.out]; exact node_set (w := w5.drewN q6) HBN.out HP.out rfl)
              have HT7 := Aside0.mk (hbt.out.node (Nat.le_refl _) (Nat.le_refl _) hpar.out hbsz HB7.out HGN.out HN7.out)
              obtain ⟨nc, xs, hoc, hnc, _⟩ := HT7.out.kids p (by omega)
              obtain ⟨Ac, cc, ec, _, _, _⟩ := rd_of_owns hoc
              have hB7 := HT7.out.fam.c3 (show p < m + 1 by omega)
              rw [upd_other _ _ (by omega)] at hB7
              rw [ec] at hB7
              have hn7 := (blkc HN7.out 1).trans rfl
              rw [HP.out, pto_pos (by omega), Int.toNat_natCast] at hn7
              have hOA := Aside0.mk (show (w7.drew.alloc (.cells #[.pointer (some ⟨gn, 0, none⟩)] 52)).ownsRow w4.heap.size 52 1 (.slice Ac nc cc) nc xs from World.ownsRow.alloc (w := w7.drew) (by rw [← ec]; exact hoc) _)
              have hf7 : w7.frozen? ⟨B p, 3, none⟩ = false := by have h_ := HT7.out.fam p (by omega); rw [upd_other _ _ (by omega)] at h_; exact blkf h_ 3
              have hsz7 := HB7.out.size
              have hB7a := (Below.cell ((Below.refl w7.heap.size w7).alloc (Nat.le_refl _) (.cells #[.pointer (some ⟨gn, 0, none⟩)] 52)) (World.block_lt_of_cell? w7 _ hB7)).trans hB7
              have hn7a := (Below.cell ((Below.refl w7.heap.size w7).alloc (Nat.le_refl _) (.cells #[.pointer (some ⟨gn, 0, none⟩)] 52)) (World.block_lt_of_cell? w7 _ hn7)).trans hn7
              have HEC := Aside0.mk ec
              have HOC := Aside0.mk hoc
              clear ec hoc hc9 hxv6 hn1 hf1
              go_cut [] (fun wc => (∃ ch' : Nat → Value, Aside0 (Bt w4.heap.size wc (parS S) (m + 1) (m + 1) m (upd B m gn) ch' (.slice (some adv) m cv))) ∧ Aside0 (Below w4.heap.size w4 wc))
              case first =>
                go_region_law (refine step_append_lies _ rfl (.tmp 83) (.tmp 85) 46 rfl w4.heap.size 52 i0 (.pointer none) 1 8 Try.underlying46 HI.out HZ0.out HZ1.out HZ2.out rfl (by decide) (.slice Ac nc cc) nc xs (by simp [Act.eval, Act.put]) hOA.out ⟨w7.heap.size, 0, none⟩ 1 1 [.pointer (some ⟨gn, 0, none⟩)] (by simp [Act.eval, Act.put]) rfl (cell_one_new _ _ _) (one_cell_ptr _) (by omega) (by unfold maxLen; omega) (by omega) (by simp; omega) _ rfl ?_; intro g8 cap8 w8 hown8 hg8 hat8 hlt8; have HN8 := Aside0.mk (node_far (HT7.out.fam p (by omega)) HOC.out (by rw [HEC.out]; exact hg8)); have hx8 := (blkc HN8.out 3).trans rfl; have hf8 := blkf HN8.out 3; rw [upd_other _ _ (by omega)] at hx8 hf8; have hn8 := (blkc (node_far HN7.out HOC.out (by rw [HEC.out]; exact hg8)) 1).trans rfl; rw [HP.out, pto_pos (by omega), Int.toNat_natCast] at hn8)
                all_goals
                  go_wp2_with fail
                  go_meet
                  exact child_done HT7.out (by omega) HP.out HOC.out hnc HEC.out hown8 hg8 hat8 hB4.out hbsz HB7.out
              case rest =>
                obtain ⟨⟨ch', hbt8⟩, hB8⟩ := hcut
                have hsz8 := hB8.out.size
                clear hB7 hn7 hf7 hB7a hn7a HT7 HN7 HB7 HW7 hOA HEC HOC HBN HB6
                go_wp2_with (at_builtin; go_loud (refine wpList_append_own_at _ rfl _ _ 46 rfl w4.heap.size 52 i0 (.pointer none) 1 8 Try.underlying46 HI.out HZ0.out HZ1.out HZ2.out rfl (by decide) (.slice (some adv) m cv) m (ptrs (upd B m gn) (List.range m)) rfl (hbt8.out.nodes.alloc _) ⟨wc.heap.size, 0, none⟩ 1 1 [.pointer (some ⟨gn, 0, none⟩)] rfl rfl (cell_one_new _ _ _) (one_cell_ptr _) (by unfold maxLen; omega) (by omega) (by simp; omega) ?_); intro v9 w9 hown9 hg9 hnil9 hat9; clear hnil9; have H9 := Aside0.mk (all_done hbt8.out hB8.out hsz8 hown9 hg9 hat9); clear hown9 hg9 hat9 hbt8 hB8)
                go_roundg (S.length - (m + 1))
                case measure => have := hk.out; omega
                case rel => exact ⟨m + 1, upd B m gn, ch', by go_num, by omega, ⟨rfl⟩, ⟨fun j hj => by
                  by_cases e : j = m
                  · rw [e]; exact Or.inr ⟨by omega, by rw [HP.out]; omega, by rw [HP.out]; omega⟩
                  · exact hpo.out j (by omega)⟩, ⟨H9.out.2⟩, ⟨H9.out.1⟩⟩
            · have hng : ¬ Good S T := fun g => hp1 (by have := g.par m hlt; unfold ParOK at this; rw [HP.out] at this; omega)
              have hmz : ((m : Int) == 0) = false := beq_eq_false_iff_ne.2 (by omega)
              have HNG := Aside0.mk hng
              have HP1 := Aside0.mk hp1
              clear hng hp1
              go_wp2_with (first
                | ((with_reducible refine gate_dst (N := 42) rfl ?_); refine box_event ?hg (N := 42) ?hd (cs := #[.int .i64 m, .pointer none, .pointer none, .slice none 0 0]) (t := 55) ?hr ?_; (case hd => rfl); (case hg => rfl); (case hr => first | (go_simp; done) | (go_simp; rfl)); intro gn hgn w5 hbn hb5; have hc9 := (hb5.cell (p := ⟨wr.heap.size, 0, none⟩) (by simp)).trans ((blkc (blk_new wr (.cells #[.int .i64 p, .int .i64 qi, .slice A2 n2 c2, .slice A3 n3 c3] 76)) 0).trans rfl); have HB6 := Aside0.mk (((Below.refl wr.heap.size wr).alloc (Nat.le_refl _) _).trans (hb5.mono (by simp))); clear hbn hgn hb5 x0 x1 x2 x3)
                | (go_at_call 26; refine (within_no _ HP1.out).mono ?_; rintro e w6 ⟨rfl, q6, rfl⟩))
              go_ret3
              exact tp_fault (below_drewN (HB5.out.trans (HB6.out.mono HB5.out.size)) _) HNG.out 2 m (by decide) rfl
        · obtain rfl : m = S.length := by omega
          obtain ⟨Av, cv, ev, hcv, _, hrd⟩ := rd_of_owns hbt.out.nodes
          cases ev
          obtain ⟨adv, eav, _⟩ := rd_ptr hrd (List.getElem?_range (show 0 < S.length by omega))
          cases eav
          have HRD := Aside0.mk hrd
          have HF := Aside0.mk hbt.out.fam
          have HK := Aside0.mk (kids_form hbt.out)
          have HLO := Aside0.mk hbt.out.low
          have HNE := Aside0.mk (show ∀ i, i < S.length → adv.block ≠ B i from fun i hi e => owns_ne_node hbt.out.nodes (hbt.out.fam i hi) (by rw [← e]; rfl))
          have HPL := Aside0.mk (show ∀ i, i < S.length → parS S i < i from fun i hi => (hpo.out i hi).lt)
          clear hrd hbt
          obtain ⟨wo, rfl⟩ : ∃ wo : World, wo = wr := ⟨_, rfl⟩
          go_wp2_with fail
          go_loopg [96] S.length (fun k i w' => ∃ m : Nat, i = .int .i64 m ∧ m ≤ S.length ∧ Aside0 (k = S.length - m) ∧ Aside0 (∀ j, j < m → DepOK S j) ∧ Aside0 (wo = w'))
          case atStart => exact ⟨0, rfl, Nat.zero_le _, ⟨rfl⟩, ⟨fun j hj => absurd hj (Nat.not_lt_zero _)⟩, ⟨rfl⟩⟩
          case round =>
            obtain ⟨m, rfl, hm2, hk2, hdo, hww⟩ := hrel
            obtain rfl := hww.out
            clear hww
            by_cases hlt2 : m < S.length
            · obtain ⟨ad_, e_, hx⟩ := rd_ptr HRD.out (List.getElem?_range hlt2)
              cases e_
              have hup := up_pos (parS S) m
              have hul := up_len (parS S) m m (Nat.le_refl _)
              by_cases hd : (up (parS S) m).length ≤ 16
              · go_wp2_with (go_at_call 46; refine (depth_calls HF.out HPL.out h1.2 m hlt2).mono ?_; rintro e w6 ⟨rfl, rfl⟩)
                go_roundg (S.length - (m + 1))
                case measure => have := hk2.out; omega
                case rel => exact ⟨m + 1, by go_num, by omega, ⟨rfl⟩, ⟨fun j hj => by
                  by_cases e : j = m
                  · rw [e]; exact hd
                  · exact hdo.out j (by omega)⟩, ⟨rfl⟩⟩
              · have HNG := Aside0.mk (show ¬ Good S T from fun g => hd (g.dep m hlt2))
                go_wp2_with (go_at_call 46; refine (depth_calls HF.out HPL.out h1.2 m hlt2).mono ?_; rintro e w6 ⟨rfl, rfl⟩)
                go_ret3
                exact tp_fault HB5.out HNG.out 3 m (by decide) rfl
            · obtain rfl : m = S.length := by omega
              go_wp2_with fail
              go_loopg [108] S.length (fun k i w' => ∃ m : Nat, i = .int .i64 m ∧ m ≤ S.length ∧ Aside0 (k = S.length - m) ∧ Aside0 (∀ j, j < m → IniOK S j) ∧ Aside0 (Fam w' S.length B (parS S) (fun j => if j < m then iniS S j else -1) ch) ∧ Aside0 (Rd w' (some adv) (ptrs B (List.range S.length))) ∧ Aside0 (Below w4.heap.size w4 w'))
              case atStart => exact ⟨0, rfl, Nat.zero_le _, ⟨rfl⟩, ⟨fun j hj => absurd hj (Nat.not_lt_zero _)⟩, ⟨HF.out⟩, HRD, hB4⟩
              case round =>
                obtain ⟨m, rfl, hm3, hk3, hio, hf3, hrd3, hB9⟩ := hrel
                have HBC9 := Aside0.mk ((hB9.out.block _ (blk_lt HBC.out)).trans HBC.out)
                have HB10 := Aside0.mk (HB.out.trans (hB9.out.mono HB.out.size))
                by_cases hlt3 : m < S.length
                · obtain ⟨ad, A2, n2, c2, A3, n3, c3, e0, x0, x1, x2, x3⟩ := at_n HR.out HB10.out m hlt3
                  cases e0
                  clear x0 x2 x3
                  obtain ⟨qi, hqi⟩ : ∃ q, iniS S m = q := ⟨_, rfl⟩
                  rw [hqi] at x1
                  have HQ := Aside0.mk hqi
                  clear hqi
                  obtain ⟨ad_, e_, hx⟩ := rd_ptr hrd3.out (List.getElem?_range hlt3)
                  cases e_
                  obtain ⟨KA, kq, KC, ek, hkq, hki⟩ := HK.out m hlt3
                  have hc3 := hf3.out.c3 hlt3
                  rw [ek] at hc3
                  have hcd0 := (blkc HBC9.out 0).trans rfl
                  have HKI := Aside0.mk hki
                  clear ek hki
                  by_cases hkid : HasKid S m
                  · have hkz : ((kq : Int) == 0) = false := beq_eq_false_iff_ne.2 (fun e => HKI.out.1 (by omega) hkid)
                    have HKD := Aside0.mk hkid
                    clear hkid
                    by_cases hq1 : 0 ≤ qi ∧ qi ≤ (S.length : Int) - 1
                    · obtain ⟨hq0, hqn⟩ := hq1
                      obtain ⟨qi, rfl⟩ := Int.eq_ofNat_of_zero_le hq0
                      have hqlt : qi < S.length := by omega
                      obtain ⟨ad2_, e2_, hx2⟩ := rd_ptr hrd3.out (List.getElem?_range hqlt)
                      cases e2_
                      have hc1 := hf3.out.c1 hqlt
                      by_cases hpe : parS S qi = m
                      · have hne : ∀ z : Nat, (binOp .neq 52 (.pointer (pto B (parS S qi))) (.pointer (some ⟨B m, 0, none⟩))).run Try.prog (wr.drewN z) = .ok (.bool false) (wr.drewN z) := fun z => by
                          have h_ := Fam.neq_parent (w := wr.drewN z) hf3.out (q := qi) hlt3 (by rw [hpe]; omega)
                          rw [decide_eq_true hpe] at h_; exact h_
                        have hf2 := blkf (hf3.out m hlt3) 2
                        have hc2 := hf3.out.c2 hlt3
                        have HPE := Aside0.mk hpe
                        clear hpe
                        go_wp2_with (go_at_call 26; refine (within_yes _ (by omega) (by omega)).mono ?_; rintro e w6 ⟨rfl, q6, rfl⟩)
                        go_roundg (S.length - (m + 1))
                        case measure => have := hk3.out; omega
                        case rel => exact ⟨m + 1, by go_num, by omega, ⟨rfl⟩, ⟨fun j hj => by
                          by_cases e : j = m
                          · rw [e]; exact Or.inr ⟨HKD.out, by rw [HQ.out]; omega, by rw [HQ.out]; omega, by rw [HQ.out, Int.toNat_natCast]; exact HPE.out⟩
                          · exact hio.out j (by omega)⟩, ⟨fam_ini (w := wr.drewN q6) hf3.out hlt3 HQ.out⟩, ⟨rd_set (w := wr.drewN q6) hrd3.out (HNE.out m hlt3)⟩, ⟨(below_drewN hB9.out q6).setCell (HLO.out m hlt3) _⟩⟩
                      · have hpn : parS S qi < S.length := by have := HPL.out qi hqlt; omega
                        have hne : ∀ z : Nat, (binOp .neq 52 (.pointer (pto B (parS S qi))) (.pointer (some ⟨B m, 0, none⟩))).run Try.prog (wr.drewN z) = .ok (.bool true) (wr.drewN z) := fun z => by
                          have h_ := Fam.neq_parent (w := wr.drewN z) hf3.out (q := qi) hlt3 hpn
                          rw [decide_eq_false hpe] at h_; exact h_
                        have HNG := Aside0.mk (show ¬ Good S T from fun g => by
                          have := g.ini m hlt3
                          rcases this with ⟨h_, _⟩ | ⟨_, _, _, h_⟩
                          · exact h_ HKD.out
                          · rw [HQ.out, Int.toNat_natCast] at h_; exact hpe h_)
                        clear hpe
                        go_wp2_with (go_at_call 26; refine (within_yes _ (by omega) (by omega)).mono ?_; rintro e w6 ⟨rfl, q6, rfl⟩)
                        go_ret3
                        exact tp_fault (below_drewN HB10.out _) HNG.out 4 m (by decide) rfl
                    · have HNG := Aside0.mk (show ¬ Good S T from fun g => by
                        have := g.ini m hlt3
                        rcases this with ⟨h_, _⟩ | ⟨_, h_, h2_, _⟩
                        · exact h_ HKD.out
                        · rw [HQ.out] at h_ h2_; exact hq1 ⟨h_, h2_⟩)
                      have HQ1 := Aside0.mk hq1
                      clear hq1
                      go_wp2_with (go_at_call 26; refine (within_no _ HQ1.out).mono ?_; rintro e w6 ⟨rfl, q6, rfl⟩)
                      go_ret3
                      exact tp_fault (below_drewN HB10.out _) HNG.out 4 m (by decide) rfl
                  · obtain rfl : kq = 0 := HKI.out.2 hkid
                    have HKD := Aside0.mk hkid
                    clear hkid
                    by_cases hq1 : qi = -1
                    · have hqz : (qi != -1) = false := bne_eq_false_iff_eq.2 hq1
                      have HQ1 := Aside0.mk hq1
                      clear hq1
                      go_wp2_with fail
                      go_roundg (S.length - (m + 1))
                      case measure => have := hk3.out; omega
                      case rel => exact ⟨m + 1, by go_num, by omega, ⟨rfl⟩, ⟨fun j hj => by
                        by_cases e : j = m
                        · rw [e]; exact Or.inl ⟨HKD.out, by rw [HQ.out]; exact HQ1.out⟩
                        · exact hio.out j (by omega)⟩, ⟨fam_same hf3.out (by rw [HQ.out]; exact HQ1.out)⟩, hrd3, hB9⟩
                    · have HNG := Aside0.mk (show ¬ Good S T from fun g => by
                        have := g.ini m hlt3
                        rcases this with ⟨_, h_⟩ | ⟨h_, _⟩
                        · rw [HQ.out] at h_; exact hq1 h_
                        · exact HKD.out h_)
                      have hqz : (qi != -1) = true := bne_iff_ne.2 hq1
                      clear hq1
                      go_wp2_with fail
                      go_ret3
                      exact tp_fault HB10.out HNG.out 4 m (by decide) rfl
                · obtain rfl : m = S.length := by omega
                  go_wp2_with fail
                  go_ret3
                  exact tp_good HB10.out ⟨h1.1, h1.2, h2, hpo.out, hdo.out, hio.out⟩ hrd3.out (fam_all hf3.out) rfl
    · have hng : ¬ Good S T := fun g => h2 g.t
      have h2' : decide ((500 : Int) < T.length) = true := decide_eq_true (by omega)
      have HNG := Aside0.mk hng
      clear hng
      go_enter Try.func25, Try.ntmps25
      go_wp2_with (first
        | ((with_reducible refine gate_dst (N := 2) rfl ?_); refine box_event ?hg (N := 2) ?hd (cs := #[.slice A0 S.length c0, .slice A1 T.length c1]) (t := 31) ?hr ?_; (case hd => rfl); (case hg => rfl); (case hr => first | (go_simp; done) | (go_simp; rfl)); intro gc hgc w1 hbc hb; have HBC := Aside0.mk hbc; have HGC := Aside0.mk hgc; have n_ := Aside0.mk (HB.out.trans hb); clear HB; have HB := n_; clear n_ hbc hgc hb)
        | ((with_reducible refine gate_dst (N := 3) rfl ?_); refine box_event ?hg (N := 3) ?hd (cs := #[.int .i64 0, .int .i64 0, .int .i64 0, .int .i64 0]) (t := 50) ?hr ?_; (case hd => rfl); (case hg => rfl); (case hr => first | (go_simp; done) | (go_simp; rfl)); intro gl hgl w2 hbl hb; have n_ := Aside0.mk (HB.out.trans (hb.mono HB.out.size)); clear HB; have HB := n_; clear n_; have hcc0 := (blkc ((hb.block _ (blk_lt HBC.out)).trans HBC.out) 0).trans rfl; have hcc1 := (blkc ((hb.block _ (blk_lt HBC.out)).trans HBC.out) 1).trans rfl; clear hbl hgl hb)
        | (go_at_call 26; refine (within_yes _ (by omega) (by omega)).mono ?_; rintro e w3 ⟨rfl, q1, rfl⟩))
      go_ret3
      exact tp_fault (below_drewN HB.out _) HNG.out 1 0 (by decide) rfl
  · have hng : ¬ Good S T := fun g => h1 ⟨g.n1, g.n2⟩
    have HNG := Aside0.mk hng
    have H1 := Aside0.mk (show ¬ ((1 : Int) ≤ (S.length : Int) ∧ (S.length : Int) ≤ 200) from fun h => h1 (by omega))
    clear hng h1
    go_enter Try.func25, Try.ntmps25
    go_wp2_with (first
      | ((with_reducible refine gate_dst (N := 2) rfl ?_); refine box_event ?hg (N := 2) ?hd (cs := #[.slice A0 S.length c0, .slice A1 T.length c1]) (t := 31) ?hr ?_; (case hd => rfl); (case hg => rfl); (case hr => first | (go_simp; done) | (go_simp; rfl)); intro gc hgc w1 hbc hb; have HBC := Aside0.mk hbc; have HGC := Aside0.mk hgc; have n_ := Aside0.mk (HB.out.trans hb); clear HB; have HB := n_; clear n_ hbc hgc hb)
      | ((with_reducible refine gate_dst (N := 3) rfl ?_); refine box_event ?hg (N := 3) ?hd (cs := #[.int .i64 0, .int .i64 0, .int .i64 0, .int .i64 0]) (t := 50) ?hr ?_; (case hd => rfl); (case hg => rfl); (case hr => first | (go_simp; done) | (go_simp; rfl)); intro gl hgl w2 hbl hb; have n_ := Aside0.mk (HB.out.trans (hb.mono HB.out.size)); clear HB; have HB := n_; clear n_; have hcc0 := (blkc ((hb.block _ (blk_lt HBC.out)).trans HBC.out) 0).trans rfl; have hcc1 := (blkc ((hb.block _ (blk_lt HBC.out)).trans HBC.out) 1).trans rfl; clear hbl hgl hb)
      | (go_at_call 26; refine (within_no _ H1.out).mono ?_; rintro e w3 ⟨rfl, q1, rfl⟩))
    go_ret3
    exact tp_fault (below_drewN HB.out _) HNG.out 1 0 (by decide) rfl
end Go.Proofs.Ytolcdkanebopiaa.Tree
