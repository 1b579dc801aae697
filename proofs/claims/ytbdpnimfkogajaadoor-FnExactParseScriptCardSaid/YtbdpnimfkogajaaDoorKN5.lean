/- Proved here: what the readers of a script's post and publish lines do. -/
import Derived.Test.YtbdpnimfkogajaaDoorKN4
import Derived.Deep.RegionWith
namespace Go.Proofs.YtbdpnimfkogajaaDoor.Txt
open Go.RowKit Go.Proofs.YtbdpnimfkogajaaDoorW.PrintWords Go.Proofs.YtbdpnimfkogajaaDoorW.PrintLast Go.Proofs.YtbdpnimfkogajaaDoorW.PrintMore Go.Proofs.YtbdpnimfkogajaaDoor.PFnExactParseScript
set_option linter.unusedVariables false
set_option linter.unusedSimpArgs false
def Two (k : Int) (l : List ByteArray) (cs : List Int) : Prop := ∃ x y u v, l = [x, y] ∧ NumOK x u ∧ NumOK y v ∧ cs = [k, 0, u, v]
theorem len_two {β : Type} : ∀ {l : List β}, l.length = 2 → ∃ a b, l = [a, b]
  | [a, b], _ => ⟨a, b, rfl⟩
theorem blkL_inj {a b : List Int} (h : some (blkL a) = some (blkL b)) : a = b := by
  simp only [blkL, Option.some.injEq, Obj.cells.injEq, and_true] at h
  have h2 : a.map (Value.int .i64) = b.map (Value.int .i64) := by simpa using h
  exact (List.map_inj_right (fun x y e => by injection e)).1 h2
set_option maxHeartbeats 800000 in
set_option maxRecDepth 100000 in
theorem publish_calls {w : World} {A : Option Addr} {c b : Nat} {l : List ByteArray} {k : Int} (hE0 : ErrV w) (hr0 : Kd.C Kd.string w A l.length l) (hc : l.length ≤ c) (hA : ∀ ad, A = some ad → ad.block ≠ b)
    (hb0 : w.heap[b]? = some (blkL [k, 0, 0, 0])) (h5 : 5 ≠ b) (h6 : 6 ≠ b) (hsz0 : ∀ x ∈ l, x.size ≤ 281474976710656) :
    Calls Tryd.prog 16 #[.pointer (some ⟨b, 0, none⟩), .slice A l.length c] w fun e w' => ReadEnds b (Two k l) w e w' := by
  have hE := Aside0.mk hE0
  have hR := Aside0.mk hr0
  have hb := Aside0.mk hb0
  have hsz := Aside0.mk hsz0
  have hAb := Aside0.mk hA
  have hlm := hr0.2.1
  clear hE0 hr0 hb0 hsz0 hA
  have hu28 := Tryd.underlying28
  have hu59 := Tryd.underlying59
  by_cases h1 : (l.length : Int) = 2
  · obtain ⟨x, y, hx⟩ := len_two (l := l) (by omega)
    have HX := Aside0.mk hx
    clear hx
    go_enter Tryd.func16, Tryd.ntmps16
    go_wp2_with fail
    refine start_ (n := 15) (S := fun w' => True) (ds := []) #[false, false, false, false, false, false, false, false, false, false, false, false, false, false, false] (by kernel_rfl) rfl rfl trivial (fun hHeld => ?_)
    refine pure_ (i := 0) (N := some 5) (v := ?_) (a' := ?_) #[true, false, false, false, false, false, false, false, false, false, false, false, false, false, false] rfl rfl (by kernel_rfl) (fun _ _ _ h => h) (Or.inl ⟨by rfl, ?_⟩) ?_ ?_
    rotate_left
    · intro w'
      go_simp
      with_reducible rfl
    rotate_left
    · simp only [Act.put, List.setIfInBounds_toArray, List.set_cons_zero, List.set_cons_succ, i64_w, i32_w]
      rfl
    refine pure_ (i := 1) (N := some 6) (v := ?_) (a' := ?_) #[true, true, false, false, false, false, false, false, false, false, false, false, false, false, false] rfl rfl (by kernel_rfl) (fun _ _ _ h => h) (Or.inl ⟨by rfl, ?_⟩) ?_ ?_
    rotate_left
    · intro w'
      go_simp
      with_reducible rfl
    rotate_left
    · simp only [Act.put, List.setIfInBounds_toArray, List.set_cons_zero, List.set_cons_succ, i64_w, i32_w]
      rfl
    refine pure_ (i := 2) (N := some 7) (v := ?_) (a' := ?_) #[true, true, true, false, false, false, false, false, false, false, false, false, false, false, false] rfl rfl (by kernel_rfl) (fun _ _ _ h => h) (Or.inl ⟨by rfl, ?_⟩) ?_ ?_
    rotate_left
    · intro w'
      go_simp
      with_reducible rfl
    rotate_left
    · simp only [Act.put, List.setIfInBounds_toArray, List.set_cons_zero, List.set_cons_succ, i64_w, i32_w]
      rfl
    refine pure_ (i := 3) (N := some 8) (v := ?_) (a' := ?_) #[true, true, true, true, false, false, false, false, false, false, false, false, false, false, false] rfl rfl (by kernel_rfl) (fun _ _ _ h => h) (Or.inl ⟨by rfl, ?_⟩) ?_ ?_
    rotate_left
    · intro w'
      go_simp
      with_reducible rfl
    rotate_left
    · simp only [Act.put, List.setIfInBounds_toArray, List.set_cons_zero, List.set_cons_succ, i64_w, i32_w]
      rfl
    refine pure_ (i := 4) (N := some 9) (v := ?_) (a' := ?_) #[true, true, true, true, true, false, false, false, false, false, false, false, false, false, false] rfl rfl (by kernel_rfl) (fun _ _ _ h => h) (Or.inl ⟨by rfl, ?_⟩) ?_ ?_
    rotate_left
    · intro w'
      go_simp
      with_reducible rfl
    rotate_left
    · simp only [Act.put, List.setIfInBounds_toArray, List.set_cons_zero, List.set_cons_succ, i64_w, i32_w]
      rfl
    refine pure_ (i := 5) (N := some 10) (v := ?_) (a' := ?_) #[true, true, true, true, true, true, false, false, false, false, false, false, false, false, false] rfl rfl (by kernel_rfl) (fun _ _ _ h => h) (Or.inl ⟨by rfl, ?_⟩) ?_ ?_
    rotate_left
    · intro w'
      go_simp
      with_reducible rfl
    rotate_left
    · simp only [Act.put, List.setIfInBounds_toArray, List.set_cons_zero, List.set_cons_succ, i64_w, i32_w]
      rfl
    refine pure_ (i := 6) (N := some 11) (v := ?_) (a' := ?_) #[true, true, true, true, true, true, true, false, false, false, false, false, false, false, false] rfl rfl (by kernel_rfl) (fun _ _ _ h => h) (Or.inl ⟨by rfl, ?_⟩) ?_ ?_
    rotate_left
    · intro w'
      go_simp
      with_reducible rfl
    rotate_left
    · simp only [Act.put, List.setIfInBounds_toArray, List.set_cons_zero, List.set_cons_succ, i64_w, i32_w]
      rfl
    refine pure_ (i := 7) (N := some 12) (v := ?_) (a' := ?_) #[true, true, true, true, true, true, true, true, false, false, false, false, false, false, false] rfl rfl (by kernel_rfl) (fun _ _ _ h => h) (Or.inl ⟨by rfl, ?_⟩) ?_ ?_
    rotate_left
    · intro w'
      go_simp
      with_reducible rfl
    rotate_left
    · simp only [Act.put, List.setIfInBounds_toArray, List.set_cons_zero, List.set_cons_succ, i64_w, i32_w]
      rfl
    refine pure_ (i := 8) (N := some 13) (v := ?_) (a' := ?_) #[true, true, true, true, true, true, true, true, true, false, false, false, false, false, false] rfl rfl (by kernel_rfl) (fun _ _ _ h => h) (Or.inl ⟨by rfl, ?_⟩) ?_ ?_
    rotate_left
    · intro w'
      go_simp
      with_reducible rfl
    rotate_left
    · simp only [Act.put, List.setIfInBounds_toArray, List.set_cons_zero, List.set_cons_succ, i64_w, i32_w]
      rfl
    refine pure_ (i := 9) (N := some 14) (v := ?_) (a' := ?_) #[true, true, true, true, true, true, true, true, true, true, false, false, false, false, false] rfl rfl (by kernel_rfl) (fun _ _ _ h => h) (Or.inl ⟨by rfl, ?_⟩) ?_ ?_
    rotate_left
    · intro w'
      go_simp
      with_reducible rfl
    rotate_left
    · simp only [Act.put, List.setIfInBounds_toArray, List.set_cons_zero, List.set_cons_succ, i64_w, i32_w]
      rfl
    refine pure_ (i := 10) (N := some 15) (v := ?_) (a' := ?_) #[true, true, true, true, true, true, true, true, true, true, true, false, false, false, false] rfl rfl (by kernel_rfl) (fun _ _ _ h => h) (Or.inl ⟨by rfl, ?_⟩) ?_ ?_
    rotate_left
    · intro w'
      go_simp
      with_reducible rfl
    rotate_left
    · simp only [Act.put, List.setIfInBounds_toArray, List.set_cons_zero, List.set_cons_succ, i64_w, i32_w]
      rfl
    refine one_ (i := 11) (N := some 16) #[true, true, true, true, true, true, true, true, true, true, true, true, false, false, false] rfl rfl (by kernel_rfl) (by decide) (fun K hK => ?_)
    refine event_step (v := .slice (some ⟨w.heap.size, 0, none⟩) 2 2) (w1 := w.drew.alloc (.cells #[.pointer (some ⟨b, 2, none⟩), .pointer (some ⟨b, 3, none⟩)] 42)) (by rfl) ?hrun ?hh
    case hrun => first | (go_simp; done) | (go_simp; rfl)
    refine hK.out _ _ trivial (fun hHeld => ?_)
    clear hK K
    refine norm_ (a' := ?_) ?_ ?_
    rotate_left
    · show Act.put _ (some 16) _ = _
      simp only [Act.put, List.setIfInBounds_toArray, List.set_cons_zero, List.set_cons_succ, i64_w, i32_w]
      rfl
    refine one_ (i := 12) (N := some 17) #[true, true, true, true, true, true, true, true, true, true, true, true, true, false, false] rfl rfl (by kernel_rfl) (by decide) (fun K hK => ?_)
    refine goes_ Tryd.func15 (by kernel_rfl) rfl #[.slice A l.length c, .slice (some ⟨w.heap.size, 0, none⟩) 2 2] (by rfl) rfl rfl (by (try simp only [List.map_toArray, List.map_cons, List.map_nil]); first | done | rfl) ?_
    refine (numbers_calls (n := 2) (ix := [2, 3]) (cs := [k, 0, 0, 0]) (hE.out.below ((Below.refl w.heap.size w).drew.trans (al w.drew _))) (Kd.C_below hR.out ((Below.refl w.heap.size w).drew.trans (al w.drew _))) hc hAb.out (ptrs_new w.drew [⟨b, 2, none⟩, ⟨b, 3, none⟩] b [2, 3] rfl) (Nat.ne_of_gt (blk_lt hb.out)) ((Below.heap_alloc w.drew _ b (blk_lt hb.out)).trans hb.out) (by simp) rfl (by omega) h5 h6 hsz.out).mono ?_
    rintro e w2 ⟨ok, rfl, hO, ⟨cs', hl4, hb4⟩, hyes, hno⟩
    refine ⟨_, rfl, ?_⟩
    refine hK.out _ _ trivial (fun hHeld => ?_)
    clear hK K
    have HO := Aside0.mk ((Only.of_below (b := b) ((Below.refl w.heap.size w).drew.trans (al w.drew _))).trans hO)
    have HY := Aside0.mk hyes
    have HN := Aside0.mk hno
    have HB4 := Aside0.mk hb4
    clear hyes hno hO hb4
    refine norm_ (a' := ?_) ?_ ?_
    rotate_left
    · show Act.put _ (some 17) _ = _
      simp only [Act.put, List.setIfInBounds_toArray, List.set_cons_zero, List.set_cons_succ, i64_w, i32_w]
      rfl
    refine pure_ (i := 13) (N := some 18) (v := ?_) (a' := ?_) #[true, true, true, true, true, true, true, true, true, true, true, true, true, true, false] rfl rfl (by kernel_rfl) (fun _ _ _ h => h) (Or.inl ⟨by rfl, ?_⟩) ?_ ?_
    rotate_left
    · intro w'
      go_simp
      with_reducible rfl
    rotate_left
    · simp only [Act.put, List.setIfInBounds_toArray, List.set_cons_zero, List.set_cons_succ, i64_w, i32_w]
      rfl
    refine pure_ (i := 14) (N := some 4) (v := ?_) (a' := ?_) #[true, true, true, true, true, true, true, true, true, true, true, true, true, true, true] rfl rfl (by kernel_rfl) (fun _ _ _ h => h) (Or.inl ⟨by rfl, ?_⟩) ?_ ?_
    rotate_left
    · intro w'
      go_simp
      with_reducible rfl
    rotate_left
    · simp only [Act.put, List.setIfInBounds_toArray, List.set_cons_zero, List.set_cons_succ, i64_w, i32_w]
      rfl
    refine done_ (by kernel_rfl) ?_
    go_wp2_with fail
    go_ret
    refine ⟨ok, cs', rfl, HO.out, hl4, HB4.out, fun h => ?_, fun h cs2 ⟨x', y', u, v, e, hn, hn2, _⟩ => ?_⟩
    · obtain ⟨vs, hvl, _, hvv, hb5⟩ := HY.out h
      obtain ⟨u, v, rfl⟩ := len_two hvl
      obtain ⟨s1, e1, n1⟩ := hvv 0 u rfl
      obtain ⟨s2, e2, n2⟩ := hvv 1 v rfl
      rw [HX.out] at e1 e2
      cases e1
      cases e2
      exact ⟨x, y, u, v, HX.out, n1, n2, blkL_inj (HB4.out.symm.trans hb5)⟩
    · rcases HN.out h with h' | ⟨m, s, hm, hs, hbad⟩
      · omega
      · rw [e] at hs
        rcases (show m = 0 ∨ m = 1 by omega) with rfl | rfl
        · cases hs; exact hbad u hn
        · cases hs; exact hbad v hn2
  · have HN := Aside0.mk (show ∀ cs', ¬ Two k l cs' from fun cs' ⟨x, y, u, v, e, _⟩ => h1 (by rw [e]; rfl))
    go_enter Tryd.func16, Tryd.ntmps16
    go_wp2_with fail
    go_quiet (fail)
    go_wp2_with fail
    go_ret
    exact ⟨false, _, rfl, Only.of_below (below_drewN (Below.refl _ _) _), rfl, hb.out, fun h => absurd h (by decide), fun _ => HN.out⟩
def Three (k : Int) (l : List ByteArray) (cs : List Int) : Prop := ∃ x y z u v t, l = [x, y, z] ∧ NumOK x u ∧ NumOK y v ∧ NumOK z t ∧ cs = [k, u, v, t]
theorem len_three {β : Type} : ∀ {l : List β}, l.length = 3 → ∃ a b c, l = [a, b, c]
  | [a, b, c], _ => ⟨a, b, c, rfl⟩
set_option maxHeartbeats 800000 in
set_option maxRecDepth 100000 in
theorem post_calls {w : World} {A : Option Addr} {c b : Nat} {l : List ByteArray} {k : Int} (hE0 : ErrV w) (hr0 : Kd.C Kd.string w A l.length l) (hc : l.length ≤ c) (hA : ∀ ad, A = some ad → ad.block ≠ b)
    (hb0 : w.heap[b]? = some (blkL [k, 0, 0, 0])) (h5 : 5 ≠ b) (h6 : 6 ≠ b) (hsz0 : ∀ x ∈ l, x.size ≤ 281474976710656) :
    Calls Tryd.prog 14 #[.pointer (some ⟨b, 0, none⟩), .slice A l.length c] w fun e w' => ReadEnds b (Three k l) w e w' := by
  have hE := Aside0.mk hE0
  have hR := Aside0.mk hr0
  have hb := Aside0.mk hb0
  have hsz := Aside0.mk hsz0
  have hAb := Aside0.mk hA
  have hlm := hr0.2.1
  clear hE0 hr0 hb0 hsz0 hA
  have hu28 := Tryd.underlying28
  have hu59 := Tryd.underlying59
  by_cases h1 : (l.length : Int) = 3
  · obtain ⟨x, y, z, hx⟩ := len_three (l := l) (by omega)
    have HX := Aside0.mk hx
    clear hx
    go_enter Tryd.func14, Tryd.ntmps14
    go_wp2_with fail
    refine start_ (n := 18) (S := fun w' => True) (ds := []) #[false, false, false, false, false, false, false, false, false, false, false, false, false, false, false, false, false, false] (by kernel_rfl) rfl rfl trivial (fun hHeld => ?_)
    refine pure_ (i := 0) (N := some 5) (v := ?_) (a' := ?_) #[true, false, false, false, false, false, false, false, false, false, false, false, false, false, false, false, false, false] rfl rfl (by kernel_rfl) (fun _ _ _ h => h) (Or.inl ⟨by rfl, ?_⟩) ?_ ?_
    rotate_left
    · intro w'
      go_simp
      with_reducible rfl
    rotate_left
    · simp only [Act.put, List.setIfInBounds_toArray, List.set_cons_zero, List.set_cons_succ, i64_w, i32_w]
      rfl
    refine pure_ (i := 1) (N := some 6) (v := ?_) (a' := ?_) #[true, true, false, false, false, false, false, false, false, false, false, false, false, false, false, false, false, false] rfl rfl (by kernel_rfl) (fun _ _ _ h => h) (Or.inl ⟨by rfl, ?_⟩) ?_ ?_
    rotate_left
    · intro w'
      go_simp
      with_reducible rfl
    rotate_left
    · simp only [Act.put, List.setIfInBounds_toArray, List.set_cons_zero, List.set_cons_succ, i64_w, i32_w]
      rfl
    refine pure_ (i := 2) (N := some 7) (v := ?_) (a' := ?_) #[true, true, true, false, false, false, false, false, false, false, false, false, false, false, false, false, false, false] rfl rfl (by kernel_rfl) (fun _ _ _ h => h) (Or.inl ⟨by rfl, ?_⟩) ?_ ?_
    rotate_left
    · intro w'
      go_simp
      with_reducible rfl
    rotate_left
    · simp only [Act.put, List.setIfInBounds_toArray, List.set_cons_zero, List.set_cons_succ, i64_w, i32_w]
      rfl
    refine pure_ (i := 3) (N := some 8) (v := ?_) (a' := ?_) #[true, true, true, true, false, false, false, false, false, false, false, false, false, false, false, false, false, false] rfl rfl (by kernel_rfl) (fun _ _ _ h => h) (Or.inl ⟨by rfl, ?_⟩) ?_ ?_
    rotate_left
    · intro w'
      go_simp
      with_reducible rfl
    rotate_left
    · simp only [Act.put, List.setIfInBounds_toArray, List.set_cons_zero, List.set_cons_succ, i64_w, i32_w]
      rfl
    refine pure_ (i := 4) (N := some 9) (v := ?_) (a' := ?_) #[true, true, true, true, true, false, false, false, false, false, false, false, false, false, false, false, false, false] rfl rfl (by kernel_rfl) (fun _ _ _ h => h) (Or.inl ⟨by rfl, ?_⟩) ?_ ?_
    rotate_left
    · intro w'
      go_simp
      with_reducible rfl
    rotate_left
    · simp only [Act.put, List.setIfInBounds_toArray, List.set_cons_zero, List.set_cons_succ, i64_w, i32_w]
      rfl
    refine pure_ (i := 5) (N := some 10) (v := ?_) (a' := ?_) #[true, true, true, true, true, true, false, false, false, false, false, false, false, false, false, false, false, false] rfl rfl (by kernel_rfl) (fun _ _ _ h => h) (Or.inl ⟨by rfl, ?_⟩) ?_ ?_
    rotate_left
    · intro w'
      go_simp
      with_reducible rfl
    rotate_left
    · simp only [Act.put, List.setIfInBounds_toArray, List.set_cons_zero, List.set_cons_succ, i64_w, i32_w]
      rfl
    refine pure_ (i := 6) (N := some 11) (v := ?_) (a' := ?_) #[true, true, true, true, true, true, true, false, false, false, false, false, false, false, false, false, false, false] rfl rfl (by kernel_rfl) (fun _ _ _ h => h) (Or.inl ⟨by rfl, ?_⟩) ?_ ?_
    rotate_left
    · intro w'
      go_simp
      with_reducible rfl
    rotate_left
    · simp only [Act.put, List.setIfInBounds_toArray, List.set_cons_zero, List.set_cons_succ, i64_w, i32_w]
      rfl
    refine pure_ (i := 7) (N := some 12) (v := ?_) (a' := ?_) #[true, true, true, true, true, true, true, true, false, false, false, false, false, false, false, false, false, false] rfl rfl (by kernel_rfl) (fun _ _ _ h => h) (Or.inl ⟨by rfl, ?_⟩) ?_ ?_
    rotate_left
    · intro w'
      go_simp
      with_reducible rfl
    rotate_left
    · simp only [Act.put, List.setIfInBounds_toArray, List.set_cons_zero, List.set_cons_succ, i64_w, i32_w]
      rfl
    refine pure_ (i := 8) (N := some 13) (v := ?_) (a' := ?_) #[true, true, true, true, true, true, true, true, true, false, false, false, false, false, false, false, false, false] rfl rfl (by kernel_rfl) (fun _ _ _ h => h) (Or.inl ⟨by rfl, ?_⟩) ?_ ?_
    rotate_left
    · intro w'
      go_simp
      with_reducible rfl
    rotate_left
    · simp only [Act.put, List.setIfInBounds_toArray, List.set_cons_zero, List.set_cons_succ, i64_w, i32_w]
      rfl
    refine pure_ (i := 9) (N := some 14) (v := ?_) (a' := ?_) #[true, true, true, true, true, true, true, true, true, true, false, false, false, false, false, false, false, false] rfl rfl (by kernel_rfl) (fun _ _ _ h => h) (Or.inl ⟨by rfl, ?_⟩) ?_ ?_
    rotate_left
    · intro w'
      go_simp
      with_reducible rfl
    rotate_left
    · simp only [Act.put, List.setIfInBounds_toArray, List.set_cons_zero, List.set_cons_succ, i64_w, i32_w]
      rfl
    refine pure_ (i := 10) (N := some 15) (v := ?_) (a' := ?_) #[true, true, true, true, true, true, true, true, true, true, true, false, false, false, false, false, false, false] rfl rfl (by kernel_rfl) (fun _ _ _ h => h) (Or.inl ⟨by rfl, ?_⟩) ?_ ?_
    rotate_left
    · intro w'
      go_simp
      with_reducible rfl
    rotate_left
    · simp only [Act.put, List.setIfInBounds_toArray, List.set_cons_zero, List.set_cons_succ, i64_w, i32_w]
      rfl
    refine pure_ (i := 11) (N := some 16) (v := ?_) (a' := ?_) #[true, true, true, true, true, true, true, true, true, true, true, true, false, false, false, false, false, false] rfl rfl (by kernel_rfl) (fun _ _ _ h => h) (Or.inl ⟨by rfl, ?_⟩) ?_ ?_
    rotate_left
    · intro w'
      go_simp
      with_reducible rfl
    rotate_left
    · simp only [Act.put, List.setIfInBounds_toArray, List.set_cons_zero, List.set_cons_succ, i64_w, i32_w]
      rfl
    refine pure_ (i := 12) (N := some 17) (v := ?_) (a' := ?_) #[true, true, true, true, true, true, true, true, true, true, true, true, true, false, false, false, false, false] rfl rfl (by kernel_rfl) (fun _ _ _ h => h) (Or.inl ⟨by rfl, ?_⟩) ?_ ?_
    rotate_left
    · intro w'
      go_simp
      with_reducible rfl
    rotate_left
    · simp only [Act.put, List.setIfInBounds_toArray, List.set_cons_zero, List.set_cons_succ, i64_w, i32_w]
      rfl
    refine pure_ (i := 13) (N := some 18) (v := ?_) (a' := ?_) #[true, true, true, true, true, true, true, true, true, true, true, true, true, true, false, false, false, false] rfl rfl (by kernel_rfl) (fun _ _ _ h => h) (Or.inl ⟨by rfl, ?_⟩) ?_ ?_
    rotate_left
    · intro w'
      go_simp
      with_reducible rfl
    rotate_left
    · simp only [Act.put, List.setIfInBounds_toArray, List.set_cons_zero, List.set_cons_succ, i64_w, i32_w]
      rfl
    refine one_ (i := 14) (N := some 19) #[true, true, true, true, true, true, true, true, true, true, true, true, true, true, true, false, false, false] rfl rfl (by kernel_rfl) (by decide) (fun K hK => ?_)
    refine event_step (v := .slice (some ⟨w.heap.size, 0, none⟩) 3 3) (w1 := w.drew.alloc (.cells #[.pointer (some ⟨b, 1, none⟩), .pointer (some ⟨b, 2, none⟩), .pointer (some ⟨b, 3, none⟩)] 42)) (by rfl) ?hrun ?hh
    case hrun => first | (go_simp; done) | (go_simp; rfl)
    refine hK.out _ _ trivial (fun hHeld => ?_)
    clear hK K
    refine norm_ (a' := ?_) ?_ ?_
    rotate_left
    · show Act.put _ (some 19) _ = _
      simp only [Act.put, List.setIfInBounds_toArray, List.set_cons_zero, List.set_cons_succ, i64_w, i32_w]
      rfl
    refine one_ (i := 15) (N := some 20) #[true, true, true, true, true, true, true, true, true, true, true, true, true, true, true, true, false, false] rfl rfl (by kernel_rfl) (by decide) (fun K hK => ?_)
    refine goes_ Tryd.func15 (by kernel_rfl) rfl #[.slice A l.length c, .slice (some ⟨w.heap.size, 0, none⟩) 3 3] (by rfl) rfl rfl (by (try simp only [List.map_toArray, List.map_cons, List.map_nil]); first | done | rfl) ?_
    refine (numbers_calls (n := 3) (ix := [1, 2, 3]) (cs := [k, 0, 0, 0]) (hE.out.below ((Below.refl w.heap.size w).drew.trans (al w.drew _))) (Kd.C_below hR.out ((Below.refl w.heap.size w).drew.trans (al w.drew _))) hc hAb.out (ptrs_new w.drew [⟨b, 1, none⟩, ⟨b, 2, none⟩, ⟨b, 3, none⟩] b [1, 2, 3] rfl) (Nat.ne_of_gt (blk_lt hb.out)) ((Below.heap_alloc w.drew _ b (blk_lt hb.out)).trans hb.out) (by simp) rfl (by omega) h5 h6 hsz.out).mono ?_
    rintro e w2 ⟨ok, rfl, hO, ⟨cs', hl4, hb4⟩, hyes, hno⟩
    refine ⟨_, rfl, ?_⟩
    refine hK.out _ _ trivial (fun hHeld => ?_)
    clear hK K
    have HO := Aside0.mk ((Only.of_below (b := b) ((Below.refl w.heap.size w).drew.trans (al w.drew _))).trans hO)
    have HY := Aside0.mk hyes
    have HN := Aside0.mk hno
    have HB4 := Aside0.mk hb4
    clear hyes hno hO hb4
    refine norm_ (a' := ?_) ?_ ?_
    rotate_left
    · show Act.put _ (some 20) _ = _
      simp only [Act.put, List.setIfInBounds_toArray, List.set_cons_zero, List.set_cons_succ, i64_w, i32_w]
      rfl
    refine pure_ (i := 16) (N := some 21) (v := ?_) (a' := ?_) #[true, true, true, true, true, true, true, true, true, true, true, true, true, true, true, true, true, false] rfl rfl (by kernel_rfl) (fun _ _ _ h => h) (Or.inl ⟨by rfl, ?_⟩) ?_ ?_
    rotate_left
    · intro w'
      go_simp
      with_reducible rfl
    rotate_left
    · simp only [Act.put, List.setIfInBounds_toArray, List.set_cons_zero, List.set_cons_succ, i64_w, i32_w]
      rfl
    refine pure_ (i := 17) (N := some 4) (v := ?_) (a' := ?_) #[true, true, true, true, true, true, true, true, true, true, true, true, true, true, true, true, true, true] rfl rfl (by kernel_rfl) (fun _ _ _ h => h) (Or.inl ⟨by rfl, ?_⟩) ?_ ?_
    rotate_left
    · intro w'
      go_simp
      with_reducible rfl
    rotate_left
    · simp only [Act.put, List.setIfInBounds_toArray, List.set_cons_zero, List.set_cons_succ, i64_w, i32_w]
      rfl
    refine done_ (by kernel_rfl) ?_
    go_wp2_with fail
    go_ret
    refine ⟨ok, cs', rfl, HO.out, hl4, HB4.out, fun h => ?_, fun h cs2 ⟨x', y', z', u, v, t, e, hn, hn2, hn3, _⟩ => ?_⟩
    · obtain ⟨vs, hvl, _, hvv, hb5⟩ := HY.out h
      obtain ⟨u, v, t, rfl⟩ := len_three hvl
      obtain ⟨s1, e1, n1⟩ := hvv 0 u rfl
      obtain ⟨s2, e2, n2⟩ := hvv 1 v rfl
      obtain ⟨s3, e3, n3⟩ := hvv 2 t rfl
      rw [HX.out] at e1 e2 e3
      cases e1
      cases e2
      cases e3
      exact ⟨x, y, z, u, v, t, HX.out, n1, n2, n3, blkL_inj (HB4.out.symm.trans hb5)⟩
    · rcases HN.out h with h' | ⟨m, s, hm, hs, hbad⟩
      · omega
      · rw [e] at hs
        rcases (show m = 0 ∨ m = 1 ∨ m = 2 by omega) with rfl | rfl | rfl
        · cases hs; exact hbad u hn
        · cases hs; exact hbad v hn2
        · cases hs; exact hbad t hn3
  · have HN := Aside0.mk (show ∀ cs', ¬ Three k l cs' from fun cs' ⟨x, y, z, u, v, t, e, _⟩ => h1 (by rw [e]; rfl))
    go_enter Tryd.func14, Tryd.ntmps14
    go_wp2_with fail
    go_quiet (fail)
    go_wp2_with fail
    go_ret
    exact ⟨false, _, rfl, Only.of_below (below_drewN (Below.refl _ _) _), rfl, hb.out, fun h => absurd h (by decide), fun _ => HN.out⟩
end Go.Proofs.YtbdpnimfkogajaaDoor.Txt
