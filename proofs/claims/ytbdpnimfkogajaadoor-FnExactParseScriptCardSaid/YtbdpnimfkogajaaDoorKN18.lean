/- Proved here: the plain law: the reference's ParseScript says just what Says takes, and Says takes one answer alone. -/
import Derived.Test.YtbdpnimfkogajaaDoorKN17
namespace Go.Proofs.YtbdpnimfkogajaaDoor.Txt
open Go.RowKit Go.Proofs.YtbdpnimfkogajaaDoorW.PrintWords Go.Proofs.YtbdpnimfkogajaaDoorW.PrintLast Go.Proofs.YtbdpnimfkogajaaDoorW.PrintMore Go.Proofs.YtbdpnimfkogajaaDoor.PFnExactParseScript
set_option linter.unusedVariables false
theorem one_cs {k lo hi : Int} {l : List ByteArray} {a b : List Int} (h : One k lo hi l a) (g : One k lo hi l b) : a = b := by
  obtain ⟨x, v, rfl, hv, _, _, rfl⟩ := h
  obtain ⟨y, u, e, hu, _, _, rfl⟩ := g
  cases e
  rw [num_one hv hu]
theorem two_cs {k : Int} {l : List ByteArray} {a b : List Int} (h : Two k l a) (g : Two k l b) : a = b := by
  obtain ⟨x, y, u, v, rfl, hu, hv, rfl⟩ := h
  obtain ⟨x', y', u', v', e, hu', hv', rfl⟩ := g
  cases e
  rw [num_one hu hu', num_one hv hv']
theorem three_cs {k : Int} {l : List ByteArray} {a b : List Int} (h : Three k l a) (g : Three k l b) : a = b := by
  obtain ⟨x, y, z, u, v, t, rfl, hu, hv, ht, rfl⟩ := h
  obtain ⟨x', y', z', u', v', t', e, hu', hv', ht', rfl⟩ := g
  cases e
  rw [num_one hu hu', num_one hv hv', num_one ht ht']
theorem item_cs {s : ByteArray} {rest : List ByteArray} {a b : List Int} (h : ItemOf s rest a) (g : ItemOf s rest b) : a = b := by
  have n12 : ¬ kPublish = kPost := by decide
  have n13 : ¬ kTick = kPost := by decide
  have n14 : ¬ kRun = kPost := by decide
  have n23 : ¬ kTick = kPublish := by decide
  have n24 : ¬ kRun = kPublish := by decide
  have n34 : ¬ kRun = kTick := by decide
  rcases h with ⟨e, h⟩ | ⟨e, h⟩ | ⟨e, h⟩ | ⟨e, h⟩ <;> subst e <;> rcases g with ⟨e, g⟩ | ⟨e, g⟩ | ⟨e, g⟩ | ⟨e, g⟩
  · exact three_cs h g
  · exact absurd e.symm n12
  · exact absurd e.symm n13
  · exact absurd e.symm n14
  · exact absurd e n12
  · exact two_cs h g
  · exact absurd e.symm n23
  · exact absurd e.symm n24
  · exact absurd e n13
  · exact absurd e n23
  · exact one_cs h g
  · exact absurd e.symm n34
  · exact absurd e n14
  · exact absurd e n24
  · exact absurd e n34
  · exact one_cs h g
theorem line_cs {x : ByteArray} {a b : List Int} (h : LineItem x a) (g : LineItem x b) : a = b := by
  obtain ⟨s, r, e, h⟩ := h
  obtain ⟨s', r', e', g⟩ := g
  rw [e] at e'
  cases e'
  exact item_cs h g
theorem Runs.one : ∀ {l : List ByteArray} {xs ys zs : List S31}, Runs xs l ys → Runs xs l zs → ys = zs
  | [], xs, ys, zs, h, k => by
    obtain rfl : ys = xs := h
    obtain rfl : zs = ys := k
    rfl
  | x :: l, xs, ys, zs, h, k => by
    rcases h with ⟨hb, h⟩ | ⟨hb, cs, hi, hl, h⟩
    · rcases k with ⟨_, k⟩ | ⟨hb', _⟩
      · exact h.one k
      · exact absurd hb hb'
    · rcases k with ⟨hb', _⟩ | ⟨_, cs', hi', _, k⟩
      · exact absurd hb' hb
      · obtain rfl := line_cs hi hi'
        exact h.one k
theorem Runs.cut : ∀ {p q : List ByteArray} {xs zs : List S31}, Runs xs (p ++ q) zs → ∃ ys, Runs xs p ys ∧ Runs ys q zs
  | [], q, xs, zs, h => ⟨xs, rfl, h⟩
  | x :: p, q, xs, zs, h => by
    rcases h with ⟨hb, h⟩ | ⟨hb, cs, hi, hl, h⟩
    · obtain ⟨ys, h1, h2⟩ := Runs.cut h
      exact ⟨ys, .inl ⟨hb, h1⟩, h2⟩
    · obtain ⟨ys, h1, h2⟩ := Runs.cut h
      exact ⟨ys, .inr ⟨hb, cs, hi, hl, h1⟩, h2⟩
theorem no_run {pre : List ByteArray} {x : ByteArray} {q : List ByteArray} {xs zs : List S31} (h : Runs [] pre xs) (hb : ¬ Blank x) (hbad : (∀ cs, ¬ LineItem x cs) ∨ 4000 ≤ xs.length) : ¬ Runs [] (pre ++ x :: q) zs := by
  intro k
  obtain ⟨ys, h1, h2⟩ := k.cut
  obtain rfl := h.one h1
  rcases h2 with ⟨hb', _⟩ | ⟨_, cs, hi, hl, _⟩
  · exact hb hb'
  · rcases hbad with hn | hn
    · exact hn cs hi
    · omega
theorem bad_le {pre pre2 : List ByteArray} {x x2 : ByteArray} {q q2 : List ByteArray} {xs xs2 : List S31} (e : pre ++ x :: q = pre2 ++ x2 :: q2) (h : Runs [] pre xs) (hb : ¬ Blank x) (hbad : (∀ cs, ¬ LineItem x cs) ∨ 4000 ≤ xs.length)
    (h2 : Runs [] pre2 xs2) : pre2.length ≤ pre.length := by
  rcases Nat.lt_or_ge pre.length pre2.length with hlt | hge
  · exfalso
    rcases List.append_eq_append_iff.1 e with ⟨a, ha, hb2⟩ | ⟨a, ha, hb2⟩
    · cases a with
      | nil => rw [ha] at hlt; simp at hlt
      | cons y a =>
        cases hb2
        rw [ha] at h2
        exact no_run h hb hbad h2
    · rw [ha] at hlt; simp at hlt; omega
  · exact hge
theorem bad_one {lines : List ByteArray} {l m : Int} (h : BadAt lines l) (k : BadAt lines m) : l = m := by
  obtain ⟨pre, x, q, xs, e, hr, hb, hbad, rfl⟩ := h
  obtain ⟨pre2, x2, q2, xs2, e2, hr2, hb2, hbad2, rfl⟩ := k
  rw [e] at e2
  have h1 := bad_le e2 hr hb hbad hr2
  have h2 := bad_le e2.symm hr2 hb2 hbad2 hr
  omega
theorem says_one {text : ByteArray} {xs ys : List S31} {l m : Int} (h : Says text xs l) (k : Says text ys m) : xs = ys ∧ l = m := by
  rcases h with ⟨hs, rfl, rfl⟩ | ⟨hs, h⟩
  · rcases k with ⟨_, rfl, rfl⟩ | ⟨hs', _⟩
    · exact ⟨rfl, rfl⟩
    · omega
  · rcases k with ⟨hs', _⟩ | ⟨_, k⟩
    · omega
    · rcases h with ⟨h, rfl⟩ | ⟨rfl, h⟩
      · rcases k with ⟨k, rfl⟩ | ⟨rfl, k⟩
        · exact ⟨h.one k, rfl⟩
        · obtain ⟨pre, x, q, zs, e, hr, hb, hbad, _⟩ := k
          rw [e] at h
          exact absurd h (no_run hr hb hbad)
      · rcases k with ⟨k, rfl⟩ | ⟨rfl, k⟩
        · obtain ⟨pre, x, q, zs, e, hr, hb, hbad, _⟩ := h
          rw [e] at k
          exact absurd k (no_run hr hb hbad)
        · exact ⟨rfl, bad_one h k⟩
theorem parse_loop (lines : List ByteArray) (hl : lines.length ≤ 100000) (hsz : ∀ x ∈ lines, x.size ≤ 100000) : ∀ (tail : List ByteArray) (i : Nat) (xs : List S31), lines.drop i = tail → Runs [] (lines.take i) xs → xs.length ≤ 4000 →
    ∃ (K : Nat) (r1 : List S31) (r2 : Int), (∀ k, K ≤ k → spec_ParseScript.l0 k xs lines (lines.length : Int) (i : Int) = some (r1, r2)) ∧ ((Runs [] lines r1 ∧ r2 = 0) ∨ (r1 = [] ∧ BadAt lines r2)) := by
  intro tail
  induction tail with
  | nil =>
    intro i xs hd hr hx
    have hlen := congrArg List.length hd
    rw [List.length_drop, List.length_nil] at hlen
    refine ⟨1, xs, 0, ?_, .inl ⟨?_, rfl⟩⟩
    · intro k hk
      obtain ⟨k, rfl⟩ : ∃ q, k = q + 1 := ⟨k - 1, by omega⟩
      rw [spec_ParseScript.l0, if_neg (by omega)]
    · rw [List.take_of_length_le (by omega)] at hr
      exact hr
  | cons x tail ih =>
    intro i xs hd hr hx
    have hlen := congrArg List.length hd
    rw [List.length_drop, List.length_cons] at hlen
    have hgx : lines[i]? = some x := by
      have := congrArg List.head? hd
      rwa [List.head?_drop] at this
    have hd' : lines.drop (i + 1) = tail := by rw [← List.drop_drop, hd]; rfl
    have htake : lines.take (i + 1) = lines.take i ++ [x] := by rw [List.take_add_one, hgx]; rfl
    have hsplit : lines = lines.take i ++ x :: tail := by
      have := (List.take_append_drop i lines).symm
      rwa [hd] at this
    have hli : (lines.take i).length = i := by rw [List.length_take]; omega
    have hxsz := hsz x (by rw [hsplit]; simp)
    have hrd : rdOf ByteArray.empty lines (i : Int) = x := by
      unfold rdOf
      rw [show ((i : Int)).toNat = i by omega, List.getD_eq_getElem?_getD, hgx]
      rfl
    have hw : wrap64 ((i : Int) + 1) = ((i + 1 : Nat) : Int) := by rw [wrap_in (by omega) (by omega)]; rfl
    have h1 : (i : Int) < (lines.length : Int) := by omega
    have h3 : (0 : Int) ≤ (i : Int) := Int.natCast_nonneg i
    -- one line is one call of j1
    obtain ⟨b, hb, hj⟩ : ∃ b : Bool, (b = true ↔ Blank x) ∧ ∀ k, spec_ParseScript.l0 (k + 1) xs lines (lines.length : Int) (i : Int) = spec_ParseScript.j1 k xs (i : Int) x lines (lines.length : Int) (i : Int) b := by
      by_cases hx0 : x.size = 0
      · have he : x.toList = [] := by
          rw [ByteArray.toList_eq]
          exact List.length_eq_zero_iff.1 (by rw [Array.length_toList]; exact hx0)
        refine ⟨true, ⟨fun _ => .inl hx0, fun _ => rfl⟩, fun k => ?_⟩
        rw [spec_ParseScript.l0, if_pos h1, if_pos h3, if_pos h1, hrd, if_pos he]
      · have he : ¬ x.toList = [] := by
          rw [ByteArray.toList_eq]
          intro e
          apply hx0
          have := congrArg List.length e
          rw [Array.length_toList] at this
          exact this
        have hpos : 0 < x.size := by omega
        have hpi : (0 : Int) < (x.size : Int) := by omega
        refine ⟨bt x 0 == 35, ?_, fun k => ?_⟩
        · rw [beq_iff_eq, show (0 : Int) = ((0 : Nat) : Int) from rfl, bt_at_nat hpos]
          constructor
          · intro e
            exact .inr ⟨hpos, byte_is35 e⟩
          · rintro (e | ⟨h, e⟩)
            · exact absurd e hx0
            · rw [e]; rfl
        · rw [spec_ParseScript.l0, if_pos h1, if_pos h3, if_pos h1, hrd, if_neg he, if_pos hpi]
    cases b with
    | true =>
      have hbl : Blank x := hb.1 rfl
      obtain ⟨K, r1, r2, hk1, hr2⟩ := ih (i + 1) xs hd' (by rw [htake]; exact hr.snoc (.inl ⟨hbl, rfl⟩)) hx
      refine ⟨K + 2, r1, r2, ?_, hr2⟩
      intro k hk
      obtain ⟨k, rfl⟩ : ∃ q, k = q + 2 := ⟨k - 2, by omega⟩
      rw [hj, spec_ParseScript.j1, if_pos rfl, hw]
      exact hk1 k (by omega)
    | false =>
      have hbl : ¬ Blank x := fun h => Bool.noConfusion (hb.2 h)
      obtain ⟨s, rest, hsr⟩ : ∃ s rest, fieldsOf x = s :: rest := by
        cases hf : fieldsOf x with
        | nil => exact absurd hf (pieces_pos x 32 _ 0 0 (by omega) (by omega))
        | cons s rest => exact ⟨s, rest, rfl⟩
      have hrl : rest.length ≤ 1000000 := by
        have h1 := congrArg List.length hsr
        have h2 := pieces_len x 32 (x.size + 1) 0 0
        unfold fieldsOf at h1
        rw [List.length_cons] at h1
        omega
      obtain ⟨K1, a, b', c, d, ok, hitem, hyes, hno⟩ := item_f s rest hrl
      have hspl : ∀ k, x.size + 1 ≤ k → spec_l5Split.f k x 32 = some (s :: rest) := fun k hk => by
        have := split_f (s := x) (c := 32) (by omega) k hk
        rw [← hsr]
        exact this
      have hstep : ∀ k, K1 + x.size + 1 ≤ k → spec_ParseScript.l0 (k + 2) xs lines (lines.length : Int) (i : Int) = if ok = true then (if (xs.length : Int) = 4000 then some ([], ((i + 1 : Nat) : Int)) else (if xs.length < 4398046511104 then spec_ParseScript.l0 k (xs ++ [(⟨a, b', c, d⟩ : S31)]) lines (lines.length : Int) ((i + 1 : Nat) : Int) else none)) else some ([], ((i + 1 : Nat) : Int)) := by
        intro k hk
        rw [hj, spec_ParseScript.j1, if_neg (fun e => Bool.noConfusion e), hspl k (by omega), Option.bind_some, hitem k (by omega), Option.bind_some, hw]
      have hbadline : ∀ (h : (∀ cs, ¬ LineItem x cs) ∨ 4000 ≤ xs.length), BadAt lines ((i + 1 : Nat) : Int) := fun h => ⟨lines.take i, x, tail, xs, hsplit, hr, hbl, h, by rw [hli]; rfl⟩
      cases ok with
      | false =>
        refine ⟨K1 + x.size + 3, [], ((i + 1 : Nat) : Int), ?_, .inr ⟨rfl, hbadline (.inl ?_)⟩⟩
        · intro k hk
          obtain ⟨k, rfl⟩ : ∃ q, k = q + 2 := ⟨k - 2, by omega⟩
          rw [hstep k (by omega), if_neg (fun e => Bool.noConfusion e)]
        · rintro cs ⟨s', rest', e, hi⟩
          rw [hsr] at e
          cases e
          exact hno rfl cs hi
      | true =>
        have hli2 : LineItem x [a, b', c, d] := ⟨s, rest, hsr, hyes rfl⟩
        by_cases h4 : xs.length = 4000
        · refine ⟨K1 + x.size + 3, [], ((i + 1 : Nat) : Int), ?_, .inr ⟨rfl, hbadline (.inr (by omega))⟩⟩
          intro k hk
          obtain ⟨k, rfl⟩ : ∃ q, k = q + 2 := ⟨k - 2, by omega⟩
          rw [hstep k (by omega), if_pos rfl, if_pos (by omega)]
        · obtain ⟨K2, r1, r2, hk1, hr2⟩ := ih (i + 1) (xs ++ [⟨a, b', c, d⟩]) hd' (by rw [htake]; exact hr.snoc (.inr ⟨hbl, [a, b', c, d], hli2, by omega, rfl⟩)) (by simp; omega)
          refine ⟨K1 + K2 + x.size + 3, r1, r2, ?_, hr2⟩
          intro k hk
          obtain ⟨k, rfl⟩ : ∃ q, k = q + 2 := ⟨k - 2, by omega⟩
          have h44 : ¬ (xs.length : Int) = 4000 := by omega
          have h45 : xs.length < 4398046511104 := by omega
          rw [hstep k (by omega), if_pos rfl, if_neg h44, if_pos h45]
          exact hk1 k (by omega)
theorem parse_f {text : ByteArray} (hs : text.size ≤ 1048576) : ∃ (K : Nat) (r1 : List S31) (r2 : Int), spec_ParseScript.f K text = some (r1, r2) ∧ Says text r1 r2 := by
  by_cases hbig : 30000 < text.size
  · refine ⟨0, [], -1, ?_, .inl ⟨hbig, rfl, rfl⟩⟩
    unfold spec_ParseScript.f
    rw [if_pos (by omega)]
  · have hlen := pieces_len text 10 (text.size + 1) 0 0
    obtain ⟨K, r1, r2, hk, hr⟩ := parse_loop (pieces text 10 (text.size + 1) 0 0) (by omega) (fun x hx => by have := piece_size text 10 _ _ _ x hx; omega) _ 0 [] rfl rfl (by simp)
    refine ⟨K + text.size + 1, r1, r2, ?_, .inr ⟨by omega, hr⟩⟩
    unfold spec_ParseScript.f
    have hsp := split_f (s := text) (c := 10) hs (K + text.size + 1) (by omega)
    rw [if_neg (by omega)]
    have hsp' : spec_l5Split.f (K + text.size + 1) text 10 = some (pieces text 10 (text.size + 1) 0 0) := hsp
    rw [hsp', Option.bind_some]
    exact hk _ (by omega)
end Go.Proofs.YtbdpnimfkogajaaDoor.Txt
