/- Proved here: laws.FnExactParseScript answers true, for every text; it writes to no memory that was there. Condition: the package variables as laid. -/
import Derived.Test.YtbdpnimfkogajaaDoorKN19
namespace Go.Proofs.YtbdpnimfkogajaaDoor.Txt
open Go.RowKit Go.Proofs.YtbdpnimfkogajaaDoorW.PrintWords Go.Proofs.YtbdpnimfkogajaaDoorW.PrintLast Go.Proofs.YtbdpnimfkogajaaDoorW.PrintMore Go.Proofs.YtbdpnimfkogajaaDoor.PFnExactParseScript
set_option linter.unusedVariables false
set_option linter.unusedSimpArgs false
structure LawI (w w4 : World) (AW AG : Option Addr) (n cW cG : Nat) (LW LG : List S31) (W : World) : Prop where
  hb : Below w.heap.size w W
  lo : w.heap.size ≤ w4.heap.size
  h4 : Below w4.heap.size w4 W
  hw : Kd.R k31 31 W w.heap.size (fun k => k < w4.heap.size) (.slice AW n cW) LW
  hg : Kd.R k31 31 W w4.heap.size (fun _ => True) (.slice AG n cG) LG
theorem LawI.below {w w4 : World} {AW AG : Option Addr} {n cW cG : Nat} {LW LG : List S31} {W W' : World} (h : LawI w w4 AW AG n cW cG LW LG W) (hb : Below W.heap.size W W') : LawI w w4 AW AG n cW cG LW LG W' :=
  ⟨h.hb.trans (hb.mono h.hb.size), h.lo, h.h4.trans (hb.mono h.h4.size), Kd.R_below h.hw hb, Kd.R_below h.hg hb⟩
theorem LawI.readW {w w4 : World} {AW AG : Option Addr} {n cW cG : Nat} {LW LG : List S31} {W : World} (h : LawI w w4 AW AG n cW cG LW LG W) : n = LW.length ∧ n ≤ cW ∧ Kd.C k31 W AW LW.length LW := Kd.R_reads' h.hw
theorem LawI.readG {w w4 : World} {AW AG : Option Addr} {n cW cG : Nat} {LW LG : List S31} {W : World} (h : LawI w w4 AW AG n cW cG LW LG W) : n = LG.length ∧ n ≤ cG ∧ Kd.C k31 W AG LG.length LG := Kd.R_reads' h.hg
theorem law_mark {w w4 W : World} {AW AG : Option Addr} {cW cG : Nat} {L : List S31} (hl : L.length ≤ 1000000) (h : LawI w w4 AW AG L.length cW cG L L W) :
    Calls Tryd.prog 7 #[.slice AG L.length cG, .int .i64 1] W fun e W' => e = .returned (.int .i64 ((4 * L.length + 1 : Nat) : Int)) ∧ LawI w w4 AW AG L.length cW cG L (cnt 0 L.length) W' := by
  refine (laws_markScriptItemS.calls _ (fun k => w4.heap.size ≤ k) (.slice AG L.length cG) L 1 _ _ w4 W h.h4 (Kd.R_mono (Kd.R_bound h.hg) (fun k hk => hk.2.1)) (mark_f L hl)).mono ?_
  rintro e W' ⟨rfl, hR, hB, hK⟩
  refine ⟨rfl, ⟨?_, h.lo, hB, ?_, Kd.R_mono hR (fun _ _ => trivial)⟩⟩
  · have hlo := h.lo
    have hup := h.h4.size
    exact ⟨hB.os.trans (h.h4.os.symm.trans h.hb.os), hB.tape.trans (h.h4.tape.symm.trans h.hb.tape), hB.output.trans (h.h4.output.symm.trans h.hb.output), Nat.le_trans hlo hB.size, fun k hk => (hB.block k (by omega)).trans ((h.h4.block k (by omega)).symm.trans (h.hb.block k hk))⟩
  · exact Kd.R_step h.hw (fun k hk _ => (hB.block k hk).trans (h.h4.block k hk).symm)
theorem law_held {w w4 W : World} {AW AG : Option Addr} {cW cG : Nat} {L : List S31} (hl : L.length ≤ 1000000) (h : LawI w w4 AW AG L.length cW cG L (cnt 0 L.length) W) :
    Calls Tryd.prog 8 #[.slice AG L.length cG, .int .i64 1] W fun e W' => e = .returned (.int .i64 ((4 * L.length + 1 : Nat) : Int)) ∧ LawI w w4 AW AG L.length cW cG L (cnt 0 L.length) W' := by
  obtain ⟨h1, h2, h3⟩ := h.readG
  have hc := laws_heldScriptItemS.calls _ AG cG (cnt 0 L.length) 1 _ W h3 (by rw [cnt_len]; exact h2) (held_f L.length hl)
  rw [cnt_len] at hc
  refine hc.mono ?_
  rintro e W' ⟨rfl, hd⟩
  obtain ⟨m, rfl⟩ := hd
  exact ⟨rfl, h.below (pw_below_drewN (Below.refl _ _) m)⟩
set_option maxHeartbeats 4000000 in
set_option maxRecDepth 100000 in
theorem script_law {text : ByteArray} {te : TypeId} {pe : Value} {w : World} (hE0 : ErrV w) (hev0 : w.cell? ⟨0, 0, none⟩ = some (.iface te pe)) (hty0 : TypeV w) (h60 : 6 < w.heap.size) :
    Calls Tryd.prog 3 #[.string text] w fun e w' => e = .returned (.bool true) ∧ Below w.heap.size w w' := by
  by_cases hbig : (1048576 : Int) < text.size
  · go_enter Tryd.func3, Tryd.ntmps3
    go_wp2_with fail
    go_ret
    exact ⟨rfl, Below.refl _ _⟩
  · obtain ⟨K, r1, r2, hK, hsays⟩ := parse_f (text := text) (by omega)
    have hlen := says_len hsays
    have HK := Aside0.mk hK
    have HS := Aside0.mk hsays
    have HE := Aside0.mk hE0
    have HEV := Aside0.mk hev0
    have HTY := Aside0.mk hty0
    clear hK hsays hE0 hev0 hty0
    go_enter Tryd.func3, Tryd.ntmps3
    go_wp2_with fail
    refine (spec_ParseScript.calls K text r1 r2 w HK.out).mono ?_
    rintro e w4 ⟨vW, rfl, hW, hb4⟩
    obtain ⟨AW, cW, rfl⟩ := Kd.R_slice hW
    have HW := Aside0.mk hW
    have HB4 := Aside0.mk hb4
    clear hW hb4
    dsimp only
    go_wp2_with fail
    refine (parse_calls (te := te) (pe := pe) (HE.out.below HB4.out) (below_cell HB4.out HEV.out) (below_cell HB4.out HTY.out) (Nat.lt_of_lt_of_le h60 HB4.out.size)).mono ?_
    rintro e w5 ⟨vG, xs, line, rfl, hG, hb5, hsays⟩
    obtain ⟨rfl, rfl⟩ := says_one hsays HS.out
    obtain ⟨AG, cG, rfl⟩ := Kd.R_slice hG
    have HI := Aside0.mk (show LawI w w4 AW AG xs.length cW cG xs xs w5 from
      ⟨HB4.out.trans (hb5.mono HB4.out.size), HB4.out.size, hb5, Kd.R_below (Kd.R_mono (Kd.R_bound HW.out) (fun k hk => hk.2.2.1)) hb5, hG⟩)
    clear hG hb5 HW HB4 hsays
    dsimp only
    go_wp2_with fail
    refine (laws_eqScriptItemS.calls _ AG cG xs AW cW xs true w5 HI.out.readG.2.2 HI.out.readG.2.1 HI.out.readW.2.2 HI.out.readW.2.1 (eq_f xs (by omega))).mono ?_
    rintro e w6 ⟨rfl, hb6⟩
    have HI6 := Aside0.mk (HI.out.below hb6)
    clear hb6 HI
    dsimp only
    go_wp2_with fail
    refine (law_mark (by omega) HI6.out).mono ?_
    rintro e w7 ⟨rfl, hi7⟩
    have HI7 := Aside0.mk hi7
    clear hi7 HI6
    dsimp only
    go_wp2_with fail
    refine (law_held (by omega) HI7.out).mono ?_
    rintro e w8 ⟨rfl, hi8⟩
    have HI8 := Aside0.mk hi8
    clear hi8 HI7
    dsimp only
    go_wp2_with fail
    refine (parse_calls (te := te) (pe := pe) (HE.out.below HI8.out.hb) (below_cell HI8.out.hb HEV.out) (below_cell HI8.out.hb HTY.out) (Nat.lt_of_lt_of_le h60 HI8.out.hb.size)).mono ?_
    rintro e w9 ⟨vH, ys, line2, rfl, hH, hb9, hsays2⟩
    obtain ⟨rfl, rfl⟩ := says_one hsays2 HS.out
    obtain ⟨AH, cH, rfl⟩ := Kd.R_slice hH
    have HI9 := Aside0.mk (HI8.out.below hb9)
    have HH := Aside0.mk (Kd.R_reads' hH)
    clear hH hb9 hsays2 HI8
    dsimp only
    go_wp2_with fail
    refine (laws_eqScriptItemS.calls _ AH cH ys AW cW ys true w9 HH.out.2.2 HH.out.2.1 HI9.out.readW.2.2 HI9.out.readW.2.1 (eq_f ys (by omega))).mono ?_
    rintro e w10 ⟨rfl, hb10⟩
    have HI10 := Aside0.mk (HI9.out.below hb10)
    clear hb10 HI9 HH
    dsimp only
    go_wp2_with fail
    refine (law_held (by omega) HI10.out).mono ?_
    rintro e w11 ⟨rfl, hi11⟩
    have HI11 := Aside0.mk hi11
    clear hi11 HI10
    dsimp only
    go_wp2_with fail

    go_ret
    exact ⟨rfl, HI11.out.hb⟩
end Go.Proofs.YtbdpnimfkogajaaDoor.Txt
