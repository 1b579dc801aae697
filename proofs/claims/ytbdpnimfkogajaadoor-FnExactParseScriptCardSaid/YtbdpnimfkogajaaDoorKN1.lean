/- Proved here: what impl's number gives: the number that a field spells, or that it spells none. Conditions: the string is shorter than 2^48 bytes; the library's two errors lie in their variables. -/
import Derived.Test.YtbdpnimfkogajaaDoorKShelf
import Derived.Test.YtbdpnimfkogajaaDoorKX0
import Derived.Outline
import Derived.WalkMore
namespace Go.Proofs.YtbdpnimfkogajaaDoor.Txt
open Go.RowKit Go.Proofs.YtbdpnimfkogajaaDoorW.PrintWords Go.Proofs.YtbdpnimfkogajaaDoorW.PrintLast Go.Proofs.YtbdpnimfkogajaaDoorW.PrintMore Go.Proofs.YtbdpnimfkogajaaDoor.PFnExactParseScript
set_option linter.unusedVariables false
def ErrV (w : World) : Prop := (∃ ev, w.cell? ⟨5, 0, none⟩ = some ev ∧ (ev = .nilIface ∨ ∃ te pe, ev = .iface te pe)) ∧ ∃ ev, w.cell? ⟨6, 0, none⟩ = some ev ∧ (ev = .nilIface ∨ ∃ te pe, ev = .iface te pe)
theorem ErrV.below {w w' : World} (h : ErrV w) (hB : Below w.heap.size w w') : ErrV w' := by
  obtain ⟨⟨e1, c1, h1⟩, e2, c2, h2⟩ := h
  exact ⟨⟨e1, (hB.cell (World.block_lt_of_cell? w _ c1)).trans c1, h1⟩, e2, (hB.cell (World.block_lt_of_cell? w _ c2)).trans c2, h2⟩
def digs (s : ByteArray) : ByteArray := ⟨(Lib.trimPrefix s.data.toList [45]).toArray⟩
structure NumOK (s : ByteArray) (v : Int) : Prop where
  lo : 1 ≤ (digs s).size
  hi : (digs s).size ≤ 19
  lead : ∀ h : 0 < (digs s).size, (digs s)[0].toNat = 48 → s.toList = [48]
  dig : ∀ i (h : i < (digs s).size), 48 ≤ (digs s)[i].toNat ∧ (digs s)[i].toNat ≤ 57
  val : Lib.parseIntB 64 s.data.toList = .ok v
def NumEnds (s : ByteArray) (w : World) (e : Ending) (w' : World) : Prop := ∃ (v : Int) (b : Bool), e = .returned (.tuple #[.int .i64 v, .bool b]) ∧ (b = true → NumOK s v) ∧ (b = false → ∀ x, ¬ NumOK s x) ∧ Below w.heap.size w w'
theorem not_dig {s d : ByteArray} {m : Nat} (hd : d = digs s) (h : m < d.size) (hn : ¬ (48 ≤ d[m].toNat ∧ d[m].toNat ≤ 57)) : ∀ x, ¬ NumOK s x := fun x hx => by
  subst hd
  exact hn (hx.dig m h)
theorem more_dig {d : ByteArray} {m : Nat} (hj : ∀ j (h : j < d.size), j < m → 48 ≤ d[j].toNat ∧ d[j].toNat ≤ 57) (h : m < d.size) (hn : 48 ≤ d[m].toNat ∧ d[m].toNat ≤ 57) : ∀ j (h : j < d.size), j < m + 1 → 48 ≤ d[j].toNat ∧ d[j].toNat ≤ 57 := fun j hjd hlt => by
  rcases Nat.lt_or_ge j m with h1 | h1
  · exact hj j hjd h1
  · obtain rfl : j = m := by omega
    exact hn
theorem num_ok {s d : ByteArray} {v : Int} (hd : d = digs s) (h1 : (1 : Int) ≤ d.size) (h2 : (d.size : Int) ≤ 19) (hl : ∀ h : 0 < d.size, d[0].toNat = 48 → s.toList = [48]) (ha : ∀ i (h : i < d.size), 48 ≤ d[i].toNat ∧ d[i].toNat ≤ 57) (hv : Lib.parseIntB 64 s.data.toList = .ok v) : NumOK s v := by
  subst hd
  exact ⟨by omega, by omega, hl, ha, hv⟩
theorem bytes_below {w w' : World} (h : w' = w ∨ ∃ t, w' = Lib.bytesWorld w 5 t) : Below w.heap.size w w' := by
  rcases h with rfl | ⟨t, rfl⟩
  · exact Below.refl _ _
  · exact Lib.bytesWorld_below _ _ _
theorem below_drewN {B : Nat} {a w : World} (h : Below B a w) (m : Nat) : Below B a (w.drewN m) := ⟨h.os, h.tape, h.output, h.size, h.block⟩
set_option maxHeartbeats 800000 in
set_option maxRecDepth 100000 in
theorem number_calls (s : ByteArray) (w : World) (hs : s.size ≤ 281474976710656) (hE : ErrV w) :
    Calls Tryd.prog 27 #[.string s] w fun e w' => NumEnds s w e w' := by
  obtain ⟨d, hd⟩ : ∃ d, d = digs s := ⟨_, rfl⟩
  have HD := Aside0.mk hd
  have HE := Aside0.mk hE
  clear hd hE
  by_cases h1 : (1 : Int) ≤ d.size
  · by_cases h2 : (d.size : Int) ≤ 19
    · have h0 : 0 < d.size := by omega
      by_cases h48 : ((d[0].toNat : Nat) : Int) = 48
      · by_cases hs48 : s.toList = [48]
        · have hsb : (s.toList == [48]) = true := by simpa using hs48
          have HL := Aside0.mk (show ∀ h : 0 < d.size, d[0].toNat = 48 → s.toList = [48] from fun _ _ => hs48)
          clear hs48
          go_enter Tryd.func27, Tryd.ntmps27
          go_wp2_with (first | (go_at_call 31; refine (Tryd.strings_TrimPrefix _ _ _).mono ?_; rintro e w1 ⟨rfl, rfl⟩; rw [show (⟨(Lib.trimPrefix s.data.toList [45]).toArray⟩ : ByteArray) = d from HD.out.symm]))
          go_loopg [29] d.size (fun g v wr => ∃ m : Nat, v = .int .i64 m ∧ m ≤ d.size ∧ Aside0 (g = d.size - m) ∧ Aside0 (wr = w1) ∧ Aside0 (∀ j (h : j < d.size), j < m → 48 ≤ d[j].toNat ∧ d[j].toNat ≤ 57))
          case atStart => exact ⟨0, rfl, Nat.zero_le _, ⟨rfl⟩, ⟨rfl⟩, ⟨fun j _ h => absurd h (Nat.not_lt_zero _)⟩⟩
          case round =>
            obtain ⟨m, rfl, hm, hg, hw, hj⟩ := hrel
            obtain rfl := hw.out
            clear hw
            by_cases hlt : m < d.size
            · by_cases hlo : ((d[m].toNat : Nat) : Int) < 48
              · have HF := Aside0.mk (not_dig HD.out hlt (by omega))
                go_wp2_with fail
                go_ret2
                exact ⟨0, false, rfl, fun h => absurd h (by decide), fun _ => HF.out, Below.refl _ _⟩
              · by_cases hhi : (57 : Int) < ((d[m].toNat : Nat) : Int)
                · have HF := Aside0.mk (not_dig HD.out hlt (by omega))
                  go_wp2_with fail
                  go_ret2
                  exact ⟨0, false, rfl, fun h => absurd h (by decide), fun _ => HF.out, Below.refl _ _⟩
                · have HJ := Aside0.mk (more_dig hj.out hlt (by omega))
                  clear hj
                  go_wp2_with fail
                  go_roundg (d.size - (m + 1))
                  case measure => have := hg.out; omega
                  case rel => exact ⟨m + 1, by go_num, by omega, ⟨rfl⟩, ⟨rfl⟩, HJ⟩
            · obtain rfl : m = d.size := by omega
              have HALL := Aside0.mk (show ∀ i (h : i < d.size), 48 ≤ d[i].toNat ∧ d[i].toNat ≤ 57 from fun i h => hj.out i h h)
              clear hj
              obtain ⟨E5, E6⟩ := HE.out
              obtain ⟨v5, c5, k5⟩ := E5
              obtain ⟨v6, c6, k6⟩ := E6
              rcases hp : Lib.parseIntB 64 s.data.toList with v | _ | _
              · skip
                have HOK := Aside0.mk (num_ok HD.out h1 h2 HL.out HALL.out hp)
                go_wp2_with (first | (go_at_call 32; refine (Tryd.strconv_ParseInt_10_at64_ok s (by omega) v hp _).mono ?_; rintro e w2 ⟨rfl, hw2⟩; have HB2 := Aside0.mk (bytes_below hw2); clear hw2))
                repeat (go_quiet (fail); try go_wp2_with fail)
                go_ret2
                exact ⟨v, true, rfl, fun _ => HOK.out, fun h => absurd h (by decide), by repeat (first | exact HB2.out | apply below_drewN)⟩
              · skip
                have HF := Aside0.mk (show ∀ x, ¬ NumOK s x from fun x hx => by have := hx.val; rw [hp] at this; cases this)
                go_wp2_with (first | (go_at_call 32; refine (Tryd.strconv_ParseInt_10_at64_syntax s hs hp v5 _ c5 k5).mono ?_; rintro e w2 ⟨N, rfl, _, _, hB2⟩; have HB2 := Aside0.mk hB2; clear hB2))
                repeat (go_quiet (fail); try go_wp2_with fail)
                go_ret2
                exact ⟨0, false, rfl, fun h => absurd h (by decide), fun _ => HF.out, by repeat (first | exact HB2.out | apply below_drewN)⟩
              · skip
                have HF := Aside0.mk (show ∀ x, ¬ NumOK s x from fun x hx => by have := hx.val; rw [hp] at this; cases this)
                go_wp2_with (first | (go_at_call 32; refine (Tryd.strconv_ParseInt_10_at64_range s hs hp v6 _ c6 k6).mono ?_; rintro e w2 ⟨N, rfl, _, _, hB2⟩; have HB2 := Aside0.mk hB2; clear hB2))
                repeat (go_quiet (fail); try go_wp2_with fail)
                go_ret2
                exact ⟨_, false, rfl, fun h => absurd h (by decide), fun _ => HF.out, by repeat (first | exact HB2.out | apply below_drewN)⟩
        · have HF := Aside0.mk (show ∀ x, ¬ NumOK s x from fun x hx => by
            have := hx.lead
            rw [← HD.out] at this
            exact hs48 (this h0 (by omega)))
          have hsb : (s.toList == [48]) = false := by simpa using hs48
          go_enter Tryd.func27, Tryd.ntmps27
          go_wp2_with (first | (go_at_call 31; refine (Tryd.strings_TrimPrefix _ _ _).mono ?_; rintro e w1 ⟨rfl, rfl⟩; rw [show (⟨(Lib.trimPrefix s.data.toList [45]).toArray⟩ : ByteArray) = d from HD.out.symm]))
          go_ret2
          exact ⟨0, false, rfl, fun h => absurd h (by decide), fun _ => HF.out, Below.refl _ _⟩
      · have HL := Aside0.mk (show ∀ h : 0 < d.size, d[0].toNat = 48 → s.toList = [48] from fun _ h => absurd (by omega) h48)
        go_enter Tryd.func27, Tryd.ntmps27
        go_wp2_with (first | (go_at_call 31; refine (Tryd.strings_TrimPrefix _ _ _).mono ?_; rintro e w1 ⟨rfl, rfl⟩; rw [show (⟨(Lib.trimPrefix s.data.toList [45]).toArray⟩ : ByteArray) = d from HD.out.symm]))
        go_loopg [29] d.size (fun g v wr => ∃ m : Nat, v = .int .i64 m ∧ m ≤ d.size ∧ Aside0 (g = d.size - m) ∧ Aside0 (wr = w1) ∧ Aside0 (∀ j (h : j < d.size), j < m → 48 ≤ d[j].toNat ∧ d[j].toNat ≤ 57))
        case atStart => exact ⟨0, rfl, Nat.zero_le _, ⟨rfl⟩, ⟨rfl⟩, ⟨fun j _ h => absurd h (Nat.not_lt_zero _)⟩⟩
        case round =>
          obtain ⟨m, rfl, hm, hg, hw, hj⟩ := hrel
          obtain rfl := hw.out
          clear hw
          by_cases hlt : m < d.size
          · by_cases hlo : ((d[m].toNat : Nat) : Int) < 48
            · have HF := Aside0.mk (not_dig HD.out hlt (by omega))
              go_wp2_with fail
              go_ret2
              exact ⟨0, false, rfl, fun h => absurd h (by decide), fun _ => HF.out, Below.refl _ _⟩
            · by_cases hhi : (57 : Int) < ((d[m].toNat : Nat) : Int)
              · have HF := Aside0.mk (not_dig HD.out hlt (by omega))
                go_wp2_with fail
                go_ret2
                exact ⟨0, false, rfl, fun h => absurd h (by decide), fun _ => HF.out, Below.refl _ _⟩
              · have HJ := Aside0.mk (more_dig hj.out hlt (by omega))
                clear hj
                go_wp2_with fail
                go_roundg (d.size - (m + 1))
                case measure => have := hg.out; omega
                case rel => exact ⟨m + 1, by go_num, by omega, ⟨rfl⟩, ⟨rfl⟩, HJ⟩
          · obtain rfl : m = d.size := by omega
            have HALL := Aside0.mk (show ∀ i (h : i < d.size), 48 ≤ d[i].toNat ∧ d[i].toNat ≤ 57 from fun i h => hj.out i h h)
            clear hj
            obtain ⟨E5, E6⟩ := HE.out
            obtain ⟨v5, c5, k5⟩ := E5
            obtain ⟨v6, c6, k6⟩ := E6
            rcases hp : Lib.parseIntB 64 s.data.toList with v | _ | _
            · skip
              have HOK := Aside0.mk (num_ok HD.out h1 h2 HL.out HALL.out hp)
              go_wp2_with (first | (go_at_call 32; refine (Tryd.strconv_ParseInt_10_at64_ok s (by omega) v hp _).mono ?_; rintro e w2 ⟨rfl, hw2⟩; have HB2 := Aside0.mk (bytes_below hw2); clear hw2))
              repeat (go_quiet (fail); try go_wp2_with fail)
              go_ret2
              exact ⟨v, true, rfl, fun _ => HOK.out, fun h => absurd h (by decide), by repeat (first | exact HB2.out | apply below_drewN)⟩
            · skip
              have HF := Aside0.mk (show ∀ x, ¬ NumOK s x from fun x hx => by have := hx.val; rw [hp] at this; cases this)
              go_wp2_with (first | (go_at_call 32; refine (Tryd.strconv_ParseInt_10_at64_syntax s hs hp v5 _ c5 k5).mono ?_; rintro e w2 ⟨N, rfl, _, _, hB2⟩; have HB2 := Aside0.mk hB2; clear hB2))
              repeat (go_quiet (fail); try go_wp2_with fail)
              go_ret2
              exact ⟨0, false, rfl, fun h => absurd h (by decide), fun _ => HF.out, by repeat (first | exact HB2.out | apply below_drewN)⟩
            · skip
              have HF := Aside0.mk (show ∀ x, ¬ NumOK s x from fun x hx => by have := hx.val; rw [hp] at this; cases this)
              go_wp2_with (first | (go_at_call 32; refine (Tryd.strconv_ParseInt_10_at64_range s hs hp v6 _ c6 k6).mono ?_; rintro e w2 ⟨N, rfl, _, _, hB2⟩; have HB2 := Aside0.mk hB2; clear hB2))
              repeat (go_quiet (fail); try go_wp2_with fail)
              go_ret2
              exact ⟨_, false, rfl, fun h => absurd h (by decide), fun _ => HF.out, by repeat (first | exact HB2.out | apply below_drewN)⟩
    · have HF := Aside0.mk (show ∀ x, ¬ NumOK s x from fun x hx => by
        have := hx.hi
        rw [← HD.out] at this
        omega)
      go_enter Tryd.func27, Tryd.ntmps27
      go_wp2_with (first | (go_at_call 31; refine (Tryd.strings_TrimPrefix _ _ _).mono ?_; rintro e w1 ⟨rfl, rfl⟩; rw [show (⟨(Lib.trimPrefix s.data.toList [45]).toArray⟩ : ByteArray) = d from HD.out.symm]))
      go_ret2
      exact ⟨0, false, rfl, fun h => absurd h (by decide), fun _ => HF.out, Below.refl _ _⟩
  · have HF := Aside0.mk (show ∀ x, ¬ NumOK s x from fun x hx => by
      have := hx.lo
      rw [← HD.out] at this
      omega)
    go_enter Tryd.func27, Tryd.ntmps27
    go_wp2_with (first | (go_at_call 31; refine (Tryd.strings_TrimPrefix _ _ _).mono ?_; rintro e w1 ⟨rfl, rfl⟩; rw [show (⟨(Lib.trimPrefix s.data.toList [45]).toArray⟩ : ByteArray) = d from HD.out.symm]))
    go_ret2
    exact ⟨0, false, rfl, fun h => absurd h (by decide), fun _ => HF.out, Below.refl _ _⟩
end Go.Proofs.YtbdpnimfkogajaaDoor.Txt
