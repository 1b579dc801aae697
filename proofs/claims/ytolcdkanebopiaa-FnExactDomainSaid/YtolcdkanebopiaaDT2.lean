/- Proved here: what impl's domain gives on a family of nodes: the innermost proper ancestor of both, as the Lean function domF finds it. Conditions: as for path. -/
import Derived.Test.YtolcdkanebopiaaDT1
import Derived.Outline
import Derived.WalkMore
import Derived.LaidEqlPtr
import Derived.Deep.QuietTactic
import Derived.BigQuiet
import Derived.Deep.RegionWith
namespace Go.Proofs.Ytolcdkanebopiaa.Tree
open Go.RowKit Go.Proofs.YtolcdkanebopiaaW.PrintWords Go.Proofs.YtolcdkanebopiaaW.PrintLast Go.Proofs.YtolcdkanebopiaaW.PrintMore Go.Proofs.Ytolcdkanebopiaa.PFnExactDomain
set_option linter.unusedVariables false
set_option linter.unusedSimpArgs false
theorem Fam.inj {w : World} {n : Nat} {B : Nat → Nat} {par ini : Nat → Int} {ch : Nat → Value} (h : Fam w n B par ini ch) {i j : Nat} (hi : i < n) (hj : j < n) (e : B i = B j) : i = j := by
  have h1 := h i hi
  have h2 := h j hj
  rw [e, h2] at h1
  simp only [nodeObj, Option.some.injEq, Obj.cells.injEq] at h1
  have := congrArg (fun a : Array Value => a.toList.head?) h1.1
  simp at this
  omega
def scan (x : Nat) : List Nat → Bool
  | [] => false
  | y :: r => if x = y then true else if y < x then false else scan x r
def domF (pb : List Nat) : List Nat → Option Nat
  | [] => none
  | x :: r => if scan x pb = true then some x else domF pb r
def ptrO (B : Nat → Nat) : Option Nat → Option Addr
  | none => none
  | some d => some ⟨B d, 0, none⟩
theorem up_le (par : Nat → Int) : ∀ n i, i ≤ n → ∀ x ∈ up par i, x ≤ i := by
  intro n
  induction n with
  | zero => intro i hi x hx; obtain rfl : i = 0 := by omega
            rw [up, dif_neg (by omega)] at hx; simp at hx; omega
  | succ n ih =>
    intro i hi x hx
    rw [up] at hx
    split at hx
    · rename_i h
      rcases List.mem_cons.1 hx with rfl | hx
      · exact Nat.le_refl _
      · have := ih (par i).toNat (by omega) x hx; omega
    · simp at hx; omega
theorem rd_ptr {w : World} {A : Option Addr} {B : Nat → Nat} {l : List Nat} (h : Rd w A (ptrs B l)) {m x : Nat} (hx : l[m]? = some x) : ∃ ad, A = some ad ∧ w.cell? (ad.add m) = some (.pointer (some ⟨B x, 0, none⟩)) :=
  h m _ (by simp [ptrs, hx])
theorem drop_get {l : List Nat} {m x : Nat} (h : l[m]? = some x) : l.drop m = x :: l.drop (m + 1) := by
  obtain ⟨hlt, rfl⟩ := List.getElem?_eq_some_iff.1 h
  exact List.drop_eq_getElem_cons hlt
theorem domF_step {pb pa : List Nat} {m x : Nat} (hx : pa[m]? = some x) (hs : scan x pb = false) {r : Option Nat} (h : domF pb (pa.drop m) = r) : domF pb (pa.drop (m + 1)) = r := by
  rw [drop_get hx, domF, if_neg (by simp [hs])] at h; exact h
theorem domF_hit {pb pa : List Nat} {m x : Nat} (hx : pa[m]? = some x) (hs : scan x pb = true) {r : Option Nat} (h : domF pb (pa.drop m) = r) : r = some x := by
  rw [drop_get hx, domF, if_pos hs] at h; exact h.symm
theorem domF_end {pb pa : List Nat} {m : Nat} (hm : pa.length ≤ m) {r : Option Nat} (h : domF pb (pa.drop m) = r) : r = none := by
  rw [List.drop_eq_nil_of_le hm, domF] at h; exact h.symm
theorem scan_hit {pb : List Nat} {q x y : Nat} (hy : pb[q]? = some y) (e : x = y) {r : Bool} (h : scan x (pb.drop q) = r) : r = true := by
  rw [drop_get hy, scan, if_pos e] at h; exact h.symm
theorem scan_less {pb : List Nat} {q x y : Nat} (hy : pb[q]? = some y) (e : ¬ x = y) (hl : y < x) {r : Bool} (h : scan x (pb.drop q) = r) : r = false := by
  rw [drop_get hy, scan, if_neg e, if_pos hl] at h; exact h.symm
theorem scan_step {pb : List Nat} {q x y : Nat} (hy : pb[q]? = some y) (e : ¬ x = y) (hl : ¬ y < x) {r : Bool} (h : scan x (pb.drop q) = r) : scan x (pb.drop (q + 1)) = r := by
  rw [drop_get hy, scan, if_neg e, if_neg hl] at h; exact h
theorem scan_end {pb : List Nat} {q x : Nat} (hm : pb.length ≤ q) {r : Bool} (h : scan x (pb.drop q) = r) : r = false := by
  rw [List.drop_eq_nil_of_le hm, scan] at h; exact h.symm
theorem Fam.below {w w' : World} {n : Nat} {B : Nat → Nat} {par ini : Nat → Int} {ch : Nat → Value} (h : Fam w n B par ini ch) (hB : Below w.heap.size w w') : Fam w' n B par ini ch :=
  fun i hi => (hB.block _ (h.lt hi)).trans (h i hi)
theorem below_drewN {B : Nat} {a w : World} (h : Below B a w) (m : Nat) : Below B a (w.drewN m) := ⟨h.os, h.tape, h.output, h.size, h.block⟩
theorem info55 : (Try.prog.info? 55).map (fun i => i.size) = some 4 := by kernel_rfl
theorem info55' : ∃ j, Try.prog.info? 55 = some j ∧ j.size = 4 := by
  have h := info55
  cases e : Try.prog.info? 55 with
  | none => rw [e] at h; cases h
  | some j => rw [e] at h; exact ⟨j, rfl, Option.some.inj h⟩
theorem eql_same (w : World) (b : Nat) : (binOp .eql 52 (.pointer (some ⟨b, 0, none⟩)) (.pointer (some ⟨b, 0, none⟩))).run Try.prog w = .ok (.bool true) w := by
  obtain ⟨j, hj, hs⟩ := info55'
  exact run_eql_ptr_same w _ Try.underlying52 hj
theorem Fam.eql_other {w : World} {n : Nat} {B : Nat → Nat} {par ini : Nat → Int} {ch : Nat → Value} (h : Fam w n B par ini ch) {x y : Nat} (hx : x < n) (hy : y < n) (hne : ¬ x = y) :
    (binOp .eql 52 (.pointer (some ⟨B x, 0, none⟩)) (.pointer (some ⟨B y, 0, none⟩))).run Try.prog w = .ok (.bool false) w := by
  obtain ⟨j, hj, hs⟩ := info55'
  exact run_eql_ptr_other w Try.underlying52 hj (by omega) (fun e => hne (h.inj hx hy (by injection e))) (h x hx) (h y hy)
set_option maxHeartbeats 4000000 in
set_option maxRecDepth 100000 in
theorem domain_calls {w : World} {n : Nat} {B : Nat → Nat} {par ini : Nat → Int} {ch : Nat → Value} (hF0 : Fam w n B par ini ch) (hP0 : ∀ i, i < n → par i < i) (hn : n ≤ 200) (a b : Nat) (ha : a < n) (hb : b < n) :
    Calls Try.prog 27 #[.pointer (some ⟨B a, 0, none⟩), .pointer (some ⟨B b, 0, none⟩)] w fun e w' => e = .returned (.pointer (ptrO B (domF ((up par b).drop 1) ((up par a).drop 1)))) ∧ Below w.heap.size w w' := by
  have hF := Aside0.mk hF0
  have hP := Aside0.mk hP0
  clear hF0 hP0
  have hu46 := Try.underlying46
  obtain ⟨i0, hi0, _, hz1, _⟩ := info_parts info52
  have hla := up_pos par a
  have hlb := up_pos par b
  have HCA := Aside0.mk fun (A : Option Addr) (c : Nat) => cut_from (P := Try.prog) 46 52 .i64 Try.underlying46 hi0 1 hz1 A (up par a).length c 1 (by omega) (by omega)
  have HCB := Aside0.mk fun (A : Option Addr) (c : Nat) => cut_from (P := Try.prog) 46 52 .i64 Try.underlying46 hi0 1 hz1 A (up par b).length c 1 (by omega) (by omega)
  clear hi0 hz1
  obtain ⟨na, hna⟩ : ∃ n, n = (up par a).length - 1 := ⟨_, rfl⟩
  obtain ⟨nb, hnb⟩ : ∃ n, n = (up par b).length - 1 := ⟨_, rfl⟩
  have HNA := Aside0.mk hna
  have HNB := Aside0.mk hnb
  clear hna hnb
  go_enter Try.func27, Try.ntmps27
  go_wp2_with fail
  go_step3
  go_wp2_with fail
  go_region_with (first
    | (go_at_call_of 33 (some (Addr.mk (B a) 0 none)); refine (path_read (w := w.drew) (ini := ini) (ch := ch) hF.out hP.out hn a ha).mono ?_; rintro e w1 ⟨A1, c1, rfl, hc1, hr1, hb1⟩; have HB1 := Aside0.mk ((Below.refl w.heap.size w).drew.trans hb1); obtain ⟨D1, hD1⟩ : ∃ D, D = (if c1 = (1 : Int).toNat then A1 else A1.map (·.add ((1 : Int).toNat * 1))) := ⟨_, rfl⟩; obtain ⟨d1, hd1⟩ : ∃ d, d = c1 - (1 : Int).toNat := ⟨_, rfl⟩; have hcut1 := HCA.out A1 c1; rw [← hD1, ← hd1, show (up par a).length - (1 : Int).toNat = na from HNA.out.symm] at hcut1; have HR1 := Aside0.mk (show Rd w1 D1 (ptrs B ((up par a).drop 1)) from by rw [hD1, ← ptrs_drop]; exact hr1.drop (by rw [ptrs_len]; exact hc1)); clear hc1 hr1 hb1 hD1 hd1)
    | (go_at_call_of 33 (some (Addr.mk (B b) 0 none)); refine (path_read (w := w1) (ini := ini) (ch := ch) (hF.out.below HB1.out) hP.out hn b hb).mono ?_; rintro e w2 ⟨A2, c2, rfl, hc2, hr2, hb2⟩; have HB2 := Aside0.mk (HB1.out.trans (hb2.mono HB1.out.size)); obtain ⟨D2, hD2⟩ : ∃ D, D = (if c2 = (1 : Int).toNat then A2 else A2.map (·.add ((1 : Int).toNat * 1))) := ⟨_, rfl⟩; obtain ⟨d2, hd2⟩ : ∃ d, d = c2 - (1 : Int).toNat := ⟨_, rfl⟩; have hcut2 := HCB.out A2 c2; rw [← hD2, ← hd2, show (up par b).length - (1 : Int).toNat = nb from HNB.out.symm] at hcut2; have HR2 := Aside0.mk (show Rd w2 D2 (ptrs B ((up par b).drop 1)) from by rw [hD2, ← ptrs_drop]; exact hr2.drop (by rw [ptrs_len]; exact hc2)); have HR3 := Aside0.mk (HR1.out.below hb2); clear hc2 hr2 hb2 hD2 hd2 HR1))
  obtain ⟨PA, hPA⟩ : ∃ l, l = (up par a).drop 1 := ⟨_, rfl⟩
  obtain ⟨PB, hPB⟩ : ∃ l, l = (up par b).drop 1 := ⟨_, rfl⟩
  have HLA := Aside0.mk (show PA.length = na from by rw [hPA, List.length_drop, HNA.out])
  have HLB := Aside0.mk (show PB.length = nb from by rw [hPB, List.length_drop, HNB.out])
  have HMA := Aside0.mk (show ∀ x ∈ PA, x < n from fun x hx => by rw [hPA] at hx; have := up_le par a a (Nat.le_refl _) x (List.mem_of_mem_drop hx); omega)
  have HMB := Aside0.mk (show ∀ x ∈ PB, x < n from fun x hx => by rw [hPB] at hx; have := up_le par b b (Nat.le_refl _) x (List.mem_of_mem_drop hx); omega)
  have hna : na ≤ 200 := by have := HNA.out; have := up_len par a a (Nat.le_refl _); omega
  have hnb : nb ≤ 200 := by have := HNB.out; have := up_len par b b (Nat.le_refl _); omega
  rw [← hPA] at HR3
  rw [← hPB] at HR2
  have HEN := Aside0.mk (show domF ((up par b).drop 1) ((up par a).drop 1) = domF PB PA from by rw [hPA, hPB])
  clear hPA hPB HNA HNB HCA HCB hcut1 hcut2 hu46 hla hlb
  obtain ⟨R, hR⟩ : ∃ r, domF PB PA = r := ⟨_, rfl⟩
  rw [hR] at HEN
  have HRR := Aside0.mk hR
  clear hR
  have HF2 := Aside0.mk (hF.out.below HB2.out)
  clear hF HB1
  go_wp2_with fail
  go_step3
  go_wp2_with fail
  go_loopg [19] na (fun k i wr => ∃ m : Nat, i = .int .i64 m ∧ m ≤ na ∧ Aside0 (k = na - m) ∧ Aside0 (domF PB (PA.drop m) = R) ∧ Aside0 (Below w2.heap.size w2 wr))
  case atStart => exact ⟨0, rfl, Nat.zero_le _, ⟨rfl⟩, ⟨HRR.out⟩, ⟨Below.refl _ _⟩⟩
  case round =>
    obtain ⟨m, rfl, hm, hk, hd, hB⟩ := hrel
    by_cases hlt : m < na
    · obtain ⟨x, hx⟩ : ∃ x, PA[m]? = some x := ⟨_, List.getElem?_eq_getElem (by rw [HLA.out]; exact hlt)⟩
      obtain ⟨ad, e1, hc⟩ := rd_ptr HR3.out hx
      cases e1
      have hc' := (hB.out.cell (World.block_lt_of_cell? w2 _ hc)).trans hc
      have hxn := HMA.out x (List.mem_of_getElem? hx)
      have HX := Aside0.mk hx
      clear hx hc
      go_wp2_with fail
      obtain ⟨wo, hwo⟩ : ∃ wo : World, wo = wr := ⟨_, rfl⟩
      obtain ⟨r, hr⟩ : ∃ r, scan x PB = r := ⟨_, rfl⟩
      have HR' := Aside0.mk hr
      clear hr hwo
      go_loopg [25] nb (fun k i w5 => ∃ q : Nat, i = .int .i64 q ∧ q ≤ nb ∧ Aside0 (k = nb - q) ∧ Aside0 (scan x (PB.drop q) = r) ∧ Aside0 (Below w2.heap.size w2 w5))
      case atStart => exact ⟨0, rfl, Nat.zero_le _, ⟨rfl⟩, ⟨HR'.out⟩, hB⟩
      case round =>
        clear hc'
        obtain ⟨q, rfl, hq, hk2, hs, hB5⟩ := hrel
        clear hB
        by_cases hlt2 : q < nb
        · obtain ⟨y, hy⟩ : ∃ y, PB[q]? = some y := ⟨_, List.getElem?_eq_getElem (by rw [HLB.out]; exact hlt2)⟩
          obtain ⟨ad2, e2, hc2⟩ := rd_ptr HR2.out hy
          cases e2
          have hc2' := (hB5.out.cell (World.block_lt_of_cell? w2 _ hc2)).trans hc2
          have hyn := HMB.out y (List.mem_of_getElem? hy)
          have HY := Aside0.mk hy
          clear hy hc2
          have cx := (HF2.out.below hB5.out).c0 hxn
          have cy := (HF2.out.below hB5.out).c0 hyn
          by_cases hxy : x = y
          · have hr1 := Aside0.mk (scan_hit HY.out hxy hs.out)
            subst hxy
            have hfin := Aside0.mk (domF_hit HX.out (HR'.out.trans hr1.out) hd.out)
            have heq := eql_same wr (B x)
            go_wp2_with fail
            rw [Exit.noGoto_ret]
            go_ret
            exact ⟨by rw [HEN.out, hfin.out]; rfl, HB2.out.trans (hB5.out.mono HB2.out.size)⟩
          · have heq := (HF2.out.below hB5.out).eql_other hxn hyn hxy
            have hxy' := Aside0.mk hxy
            clear hxy
            by_cases hl3 : y < x
            · have hr0 := Aside0.mk (scan_less HY.out hxy'.out hl3 hs.out)
              go_wp2_with fail
              go_quiet (fail)
              go_wp2_with fail
              go_roundg (na - (m + 1))
              case measure => have := hk.out; omega
              case rel => exact ⟨m + 1, by go_num, by omega, ⟨rfl⟩, ⟨domF_step HX.out (HR'.out.trans hr0.out) hd.out⟩, ⟨below_drewN hB5.out _⟩⟩
            · have hr0 := Aside0.mk (scan_step HY.out hxy'.out hl3 hs.out)
              go_wp2_with fail
              go_quiet (fail)
              go_wp2_with fail
              go_roundg (nb - (q + 1))
              case measure => have := hk2.out; omega
              case rel => exact ⟨q + 1, by go_num, by omega, ⟨rfl⟩, hr0, ⟨below_drewN hB5.out _⟩⟩
        · obtain rfl : q = nb := by omega
          have hr0 := Aside0.mk (scan_end (by rw [HLB.out]; exact Nat.le_refl _) hs.out)
          go_wp2_with fail
          go_roundg (na - (m + 1))
          case measure => have := hk.out; omega
          case rel => exact ⟨m + 1, by go_num, by omega, ⟨rfl⟩, ⟨domF_step HX.out (HR'.out.trans hr0.out) hd.out⟩, hB5⟩
    · obtain rfl : m = na := by omega
      have hr0 := Aside0.mk (domF_end (by rw [HLA.out]; exact Nat.le_refl _) hd.out)
      go_wp2_with fail
      rw [Exit.noGoto_ret]
      go_ret
      exact ⟨by rw [HEN.out, hr0.out]; rfl, HB2.out.trans (hB.out.mono HB2.out.size)⟩
end Go.Proofs.Ytolcdkanebopiaa.Tree
