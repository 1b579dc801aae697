/- Proved here: what the map of the readers offers to a round of eachLine; which lines a script's items are. Conditions: they stand in the statements. -/
import Derived.Test.YtbdpnimfkogajaaDoorKN9
namespace Go.Proofs.YtbdpnimfkogajaaDoor.Txt
open Go.RowKit Go.Proofs.YtbdpnimfkogajaaDoorW.PrintWords Go.Proofs.YtbdpnimfkogajaaDoorW.PrintLast Go.Proofs.YtbdpnimfkogajaaDoorW.PrintMore Go.Proofs.YtbdpnimfkogajaaDoor.PFnExactParseScript
set_option linter.unusedVariables false
def Blank (x : ByteArray) : Prop := x.size = 0 ∨ ∃ h : 0 < x.size, x[0] = 35
def fieldsOf (x : ByteArray) : List ByteArray := pieces x 32 (x.size + 1) 0 0
def ItemOf (s : ByteArray) (rest : List ByteArray) (cs : List Int) : Prop :=
  (s = kPost ∧ Three 1 rest cs) ∨ (s = kPublish ∧ Two 2 rest cs) ∨ (s = kTick ∧ One 3 1 100 rest cs) ∨ (s = kRun ∧ One 4 0 10000 rest cs)
def LineItem (x : ByteArray) (cs : List Int) : Prop := ∃ s rest, fieldsOf x = s :: rest ∧ ItemOf s rest cs
def Runs : List S31 → List ByteArray → List S31 → Prop
  | xs, [], ys => ys = xs
  | xs, x :: l, ys => (Blank x ∧ Runs xs l ys) ∨ (¬ Blank x ∧ ∃ cs, LineItem x cs ∧ xs.length < 4000 ∧ Runs (xs ++ [itemOf cs]) l ys)
theorem Runs.snoc : ∀ {l : List ByteArray} {xs ys zs : List S31} {x : ByteArray}, Runs xs l ys → Runs ys [x] zs → Runs xs (l ++ [x]) zs
  | [], xs, ys, zs, x, h, k => by
    obtain rfl : ys = xs := h
    exact k
  | y :: l, xs, ys, zs, x, h, k => by
    rcases h with ⟨hb, h⟩ | ⟨hb, cs, hi, hl, h⟩
    · exact .inl ⟨hb, Runs.snoc h k⟩
    · exact .inr ⟨hb, cs, hi, hl, Runs.snoc h k⟩
theorem Runs.len : ∀ {l : List ByteArray} {xs ys : List S31}, Runs xs l ys → ys.length ≤ xs.length + l.length
  | [], xs, ys, h => by obtain rfl : ys = xs := h; simp
  | y :: l, xs, ys, h => by
    rcases h with ⟨_, h⟩ | ⟨_, cs, _, _, h⟩
    · have := Runs.len h; simp; omega
    · have := Runs.len h; simp at this ⊢; omega
theorem piece_size (s : ByteArray) (c : UInt8) : ∀ k fr i, ∀ x ∈ pieces s c k fr i, x.size ≤ s.size := by
  intro k
  induction k with
  | zero => intro fr i x hx; exact absurd hx (by simp [pieces])
  | succ k ih =>
    intro fr i x hx
    rw [pieces] at hx
    split at hx
    · split at hx
      · rcases List.mem_cons.1 hx with rfl | hx
        · simp; omega
        · exact ih _ _ x hx
      · exact ih _ _ x hx
    · obtain rfl := List.mem_singleton.1 hx
      simp
theorem pieces_pos (s : ByteArray) (c : UInt8) : ∀ k fr i, s.size < k + i → i ≤ s.size → pieces s c k fr i ≠ [] := by
  intro k
  induction k with
  | zero => intro fr i h1 h2; omega
  | succ k ih =>
    intro fr i hk hi
    rw [pieces]
    split
    · split
      · simp
      · exact ih _ _ (by omega) (by omega)
    · simp
theorem reads_post : Reads 14 1 (Three 1) := fun h1 h2 h3 h4 h5 h6 h7 h8 => post_calls h1 h2 h3 h4 h5 h6 h7 h8
theorem reads_publish : Reads 16 2 (Two 2) := fun h1 h2 h3 h4 h5 h6 h7 h8 => publish_calls h1 h2 h3 h4 h5 h6 h7 h8
theorem reads_tick : Reads 17 3 (One 3 1 100) := fun h1 h2 h3 h4 h5 h6 h7 h8 => tick_calls h1 h2 h3 h4 h5 h6 h7 h8
theorem reads_run : Reads 19 4 (One 4 0 10000) := fun h1 h2 h3 h4 h5 h6 h7 h8 => run_calls h1 h2 h3 h4 h5 h6 h7 h8
def RdAt (W : World) (lo hi ob g : Nat) (k : Int) (v : Value) : Prop :=
  ∃ kb rb, lo ≤ kb ∧ kb < hi ∧ lo ≤ rb ∧ rb < hi ∧ v = .func (.func 12) #[] #[.pointer (some ⟨kb, 0, none⟩), .pointer (some ⟨rb, 0, none⟩), .pointer (some ⟨ob, 0, none⟩)] ∧
    W.cell? ⟨kb, 0, none⟩ = some (.int .i64 k) ∧ W.cell? ⟨rb, 0, none⟩ = some (.func (.func g) #[] #[])
theorem RdAt.chg {W W' : World} {S : Nat → Prop} {lo hi ob g : Nat} {k : Int} {v : Value} (h : RdAt W lo hi ob g k v) (hc : Chg S W W') (hS : ∀ k, lo ≤ k → k < hi → ¬ S k) : RdAt W' lo hi ob g k v := by
  obtain ⟨kb, rb, h1, h2, h3, h4, hv, hk, hr⟩ := h
  exact ⟨kb, rb, h1, h2, h3, h4, hv, hc.cell hk (hS kb h1 h2), hc.cell hr (hS rb h3 h4)⟩
def RdMap (W : World) (lo hi ob mb : Nat) : Prop :=
  lo ≤ mb ∧ mb < hi ∧ ∃ v1 v2 v3 v4, W.heap[mb]? = some (rdMap v1 v2 v3 v4) ∧ RdAt W lo hi ob 14 1 v1 ∧ RdAt W lo hi ob 16 2 v2 ∧ RdAt W lo hi ob 17 3 v3 ∧ RdAt W lo hi ob 19 4 v4
theorem RdMap.chg {W W' : World} {S : Nat → Prop} {lo hi ob mb : Nat} (h : RdMap W lo hi ob mb) (hc : Chg S W W') (hS : ∀ k, lo ≤ k → k < hi → ¬ S k) : RdMap W' lo hi ob mb := by
  obtain ⟨h1, h2, v1, v2, v3, v4, hm, a, b, c, d⟩ := h
  exact ⟨h1, h2, v1, v2, v3, v4, hc.block hm (hS mb h1 h2), a.chg hc hS, b.chg hc hS, c.chg hc hS, d.chg hc hS⟩
theorem RdMap.look {W : World} {lo hi ob mb : Nat} (h : RdMap W lo hi ob mb) (s : ByteArray) :
    (∃ kb rb g k I, Enters Tryd.prog g ∧ Reads g k I ∧ W.cell? ⟨kb, 0, none⟩ = some (.int .i64 k) ∧ W.cell? ⟨rb, 0, none⟩ = some (.func (.func g) #[] #[]) ∧ (∀ rest cs, I rest cs ↔ ItemOf s rest cs) ∧
      ∀ W', W'.heap[mb]? = W.heap[mb]? → (Instr.lookup 44 (.map (some mb)) (.string s) true).run Tryd.prog W' = .ok (.tuple #[.func (.func 12) #[] #[.pointer (some ⟨kb, 0, none⟩), .pointer (some ⟨rb, 0, none⟩), .pointer (some ⟨ob, 0, none⟩)], .bool true]) W') ∨
    ((∀ rest cs, ¬ ItemOf s rest cs) ∧ ∀ W', W'.heap[mb]? = W.heap[mb]? → (Instr.lookup 44 (.map (some mb)) (.string s) true).run Tryd.prog W' = .ok (.tuple #[.nilFunc, .bool false]) W') := by
  obtain ⟨h1, h2, v1, v2, v3, v4, hm, ha, hb, hc, hd⟩ := h
  have hl := fun (W' : World) (e : W'.heap[mb]? = W.heap[mb]?) => look_run (W := W') (mb := mb) (v1 := v1) (v2 := v2) (v3 := v3) (v4 := v4) (e.trans hm) s
  have n12 : ¬ kPublish = kPost := by decide
  have n13 : ¬ kTick = kPost := by decide
  have n14 : ¬ kRun = kPost := by decide
  have n23 : ¬ kTick = kPublish := by decide
  have n24 : ¬ kRun = kPublish := by decide
  have n34 : ¬ kRun = kTick := by decide
  unfold rdPick at hl
  by_cases e1 : s = kPost
  · obtain ⟨kb, rb, _, _, _, _, rfl, hk, hr⟩ := ha
    subst e1
    simp only [if_true] at hl
    exact .inl ⟨kb, rb, 14, 1, _, enters_of Tryd.func14 (by kernel_rfl) rfl, reads_post, hk, hr, fun rest cs => by unfold ItemOf; simp [Ne.symm n12, Ne.symm n13, Ne.symm n14], hl⟩
  simp only [if_neg e1] at hl
  by_cases e2 : s = kPublish
  · obtain ⟨kb, rb, _, _, _, _, rfl, hk, hr⟩ := hb
    subst e2
    simp only [if_true] at hl
    exact .inl ⟨kb, rb, 16, 2, _, enters_of Tryd.func16 (by kernel_rfl) rfl, reads_publish, hk, hr, fun rest cs => by unfold ItemOf; simp [n12, Ne.symm n23, Ne.symm n24], hl⟩
  simp only [if_neg e2] at hl
  by_cases e3 : s = kTick
  · obtain ⟨kb, rb, _, _, _, _, rfl, hk, hr⟩ := hc
    subst e3
    simp only [if_true] at hl
    exact .inl ⟨kb, rb, 17, 3, _, enters_of Tryd.func17 (by kernel_rfl) rfl, reads_tick, hk, hr, fun rest cs => by unfold ItemOf; simp [n13, n23, Ne.symm n34], hl⟩
  simp only [if_neg e3] at hl
  by_cases e4 : s = kRun
  · obtain ⟨kb, rb, _, _, _, _, rfl, hk, hr⟩ := hd
    subst e4
    simp only [if_true] at hl
    exact .inl ⟨kb, rb, 19, 4, _, enters_of Tryd.func19 (by kernel_rfl) rfl, reads_run, hk, hr, fun rest cs => by unfold ItemOf; simp [n14, n24, n34], hl⟩
  simp only [if_neg e4] at hl
  exact .inr ⟨fun rest cs hi => by
    rcases hi with ⟨e, _⟩ | ⟨e, _⟩ | ⟨e, _⟩ | ⟨e, _⟩
    · exact e1 e
    · exact e2 e
    · exact e3 e
    · exact e4 e, hl⟩
end Go.Proofs.YtbdpnimfkogajaaDoor.Txt
