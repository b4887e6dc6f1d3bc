/- The document's decoder: Done, printed by port_rdec.py from the program's side. -/
import Derived.Test.YtomcjdonacckfaaDoneR
import Derived.Test.YtomcjdonacckfaaSixelR
namespace Go.Proofs.Ytomcjdonacckfaa.R
open Go.Proofs.Ytomcjdonacckfaa Go.RowKit
set_option linter.unusedVariables false
set_option linter.unusedSimpArgs false
set_option maxRecDepth 100000 in
set_option maxHeartbeats 8000000 in
theorem done_size (G : Nat → Prop) (d : Dec) (W : World) (a W0 H0 M : Nat) (hd : DOwn G W a d) (hpk : PicOk d W0 H0 M) (hf : d.full = false) (hnum : NumOk d) (hc : d.cmd = 34) :
    Calls Try.prog 35 #[.pointer (some ⟨a, 0, none⟩)] W fun e w' => e = .returned (.tuple #[]) ∧ Turn G W w' a (d.done W0 H0) := by
  have e : d.done W0 H0 = (if wantsSize d.cmdOff then d.cmdOff.grow W0 H0 (max (d.cmdOff.n.getD 2 0).toNat W0) (max (d.cmdOff.n.getD 3 0).toNat H0) else d.cmdOff) := by unfold Dec.done; rw [if_neg (by rw [hc]; decide), if_neg (by rw [hc]; decide), if_neg (by rw [hc]; decide), if_pos hc]
  obtain ⟨RES, hRES⟩ : ∃ R, d.done W0 H0 = R := ⟨_, rfl⟩
  rw [hRES] at e ⊢
  have HRES0 := Lib.hid e
  clear e hRES
  have HP := Lib.hid (push_any G d W a hd hnum.len)
  obtain ⟨pv0, nv0, hb0, -⟩ := hd
  have cc : W.cell? ⟨a, 780, none⟩ = some (.int .u8 34) := by rw [← hc]; exact hb0.fcmd.1
  have HNUM := Lib.hid (push_num hnum)
  have HPK := Lib.hid (And.intro hpk (And.intro hf hc))
  obtain ⟨D2, hD2⟩ : ∃ D2, d.cmdOff = D2 := ⟨_, rfl⟩
  try rw [hD2]
  have HD2 := Lib.hid hD2
  clear hb0 hnum hpk hf hc hD2
  go_enter Try.func35, Try.ntmps35
  go_wp2_with fail
  refine HP.out.mono ?_
  rintro e w1 ⟨rfl, hT1⟩
  obtain ⟨V2, hV2⟩ : ∃ V, w1.setCell ⟨a, 780, none⟩ (.int .u8 0) = V := ⟨_, rfl⟩
  have hT2 : Turn G W V2 a D2 := by rw [← hV2, ← HD2.out]; exact hT1.set (fun _ _ h => h.scmd 0) rfl rfl
  obtain ⟨G1, ⟨pv1, nv1, hb1, -⟩, -⟩ := hT1
  obtain ⟨k0, k0'⟩ := hb1.fcmd
  have k1 : w1.cell? ⟨a, 780, none⟩ = some (.int .u8 34) := by rw [← HPK.out.2.2]; exact k0
  obtain ⟨G2, hDO, hs2, hk2⟩ := hT2
  have hnum2 : NumOk D2 := by rw [← HD2.out]; exact ⟨HNUM.out.len, HNUM.out.n, HNUM.out.v⟩
  have HO2 := Lib.hid (And.intro hDO (And.intro hs2 (And.intro hk2 hnum2)))
  obtain ⟨pv, nv, hb, hp, hn, -⟩ := hDO
  clear hb1 k0 hs2 hk2 hnum2
  have HRES := Lib.hid (show RES = (if wantsSize D2 then D2.grow W0 H0 (max (D2.n.getD 2 0).toNat W0) (max (D2.n.getD 3 0).toNat H0) else D2) by have := HRES0.out; rw [HD2.out] at this; exact this)
  have HPK2 := Lib.hid (show PicOk D2 W0 H0 M ∧ D2.full = false by rw [← HD2.out]; exact ⟨⟨HPK.out.1.w, HPK.out.1.h, HPK.out.1.most, HPK.out.1.M, HPK.out.1.wb, HPK.out.1.hb, HPK.out.1.z, HPK.out.1.p⟩, HPK.out.2.1⟩)
  have HN2 := Lib.hid (number_any 2 D2 V2 a pv nv hb hn HO2.out.2.2.2.len)
  have HN3 := Lib.hid (number_any 3 D2 V2 a pv nv hb hn HO2.out.2.2.2.len)
  have hx2 := HO2.out.2.2.2.n 2
  have hx3 := HO2.out.2.2.2.n 3
  obtain ⟨x2, hx2e⟩ : ∃ x, D2.n.getD 2 0 = x := ⟨_, rfl⟩
  obtain ⟨x3, hx3e⟩ : ∃ x, D2.n.getD 3 0 = x := ⟨_, rfl⟩
  rw [hx2e] at HN2 hx2
  rw [hx3e] at HN3 hx3
  have HX := Lib.hid (And.intro hx2e hx3e)
  obtain ⟨bd, hbd⟩ : ∃ b, D2.drawn = b := ⟨_, rfl⟩
  obtain ⟨bn, hbn⟩ : ∃ b, D2.down = b := ⟨_, rfl⟩
  have j0 : V2.cell? ⟨a, 776, none⟩ = some (.bool bd) := by rw [← hbd]; exact hb.fdrawn.1
  have j1 : V2.cell? ⟨a, 777, none⟩ = some (.bool bn) := by rw [← hbn]; exact hb.fdown.1
  have HDD := Lib.hid (And.intro hbd hbn)
  clear hb hp hn hx2e hx3e hbd hbn HRES0
  go_wp2_with fail
  refine HN2.out.mono ?_
  rintro e w2 ⟨rfl, rfl⟩
  go_wp2_with fail
  refine HN3.out.mono ?_
  rintro e w3 ⟨rfl, rfl⟩
  by_cases k0 : 1 ≤ x2
  rotate_left
  · have g0 : decide (1 ≤ x2) = false := decide_eq_false k0
    have K0 := Lib.hid k0
    clear k0
    go_wp2
    go_end0
    refine ⟨rfl, ?_⟩
    rw [HRES.out, if_neg (fun h => by have h9 := K0.out; have h8 := h.1; rw [HX.out.1] at h8; omega)]
    exact Turn.then HO2.out.2.1 HO2.out.2.2.1 (Turn.refl HO2.out.1)
  have g0 : decide (1 ≤ x2) = true := decide_eq_true k0
  by_cases k1 : x2 ≤ 16384
  rotate_left
  · have g1 : decide (x2 ≤ 16384) = false := decide_eq_false k1
    have K1 := Lib.hid k1
    clear k1
    go_wp2
    go_end0
    refine ⟨rfl, ?_⟩
    rw [HRES.out, if_neg (fun h => by have h9 := K1.out; have h8 := h.2.1; rw [HX.out.1] at h8; omega)]
    exact Turn.then HO2.out.2.1 HO2.out.2.2.1 (Turn.refl HO2.out.1)
  have g1 : decide (x2 ≤ 16384) = true := decide_eq_true k1
  by_cases k2 : 1 ≤ x3
  rotate_left
  · have g2 : decide (1 ≤ x3) = false := decide_eq_false k2
    have K2 := Lib.hid k2
    clear k2
    go_wp2
    go_end0
    refine ⟨rfl, ?_⟩
    rw [HRES.out, if_neg (fun h => by have h9 := K2.out; have h8 := h.2.2.1; rw [HX.out.2] at h8; omega)]
    exact Turn.then HO2.out.2.1 HO2.out.2.2.1 (Turn.refl HO2.out.1)
  have g2 : decide (1 ≤ x3) = true := decide_eq_true k2
  by_cases k3 : x3 ≤ 16384
  rotate_left
  · have g3 : decide (x3 ≤ 16384) = false := decide_eq_false k3
    have K3 := Lib.hid k3
    clear k3
    go_wp2
    go_end0
    refine ⟨rfl, ?_⟩
    rw [HRES.out, if_neg (fun h => by have h9 := K3.out; have h8 := h.2.2.2.1; rw [HX.out.2] at h8; omega)]
    exact Turn.then HO2.out.2.1 HO2.out.2.2.1 (Turn.refl HO2.out.1)
  have g3 : decide (x3 ≤ 16384) = true := decide_eq_true k3
  have K := Lib.hid (And.intro k0 (And.intro k1 (And.intro k2 k3)))
  clear k0 k1 k2 k3
  cases bd with
  | true =>
    go_wp2
    go_end0
    refine ⟨rfl, ?_⟩
    rw [HRES.out, if_neg (fun h => by have := h.2.2.2.2.1; rw [HDD.out.1] at this; cases this)]
    exact Turn.then HO2.out.2.1 HO2.out.2.2.1 (Turn.refl HO2.out.1)
  | false =>
    cases bn with
    | true =>
      go_wp2
      go_end0
      refine ⟨rfl, ?_⟩
      rw [HRES.out, if_neg (fun h => by have := h.2.2.2.2.2; rw [HDD.out.2] at this; cases this)]
      exact Turn.then HO2.out.2.1 HO2.out.2.2.1 (Turn.refl HO2.out.1)
    | false =>
      obtain ⟨w0, hw0⟩ : ∃ w0 : Nat, x2 = (w0 : Int) := ⟨x2.toNat, by have := K.out.1; omega⟩
      obtain ⟨h0, hh0⟩ : ∃ h0 : Nat, x3 = (h0 : Int) := ⟨x3.toNat, by have := K.out.2.2.1; omega⟩
      subst hw0 hh0
      have HG := Lib.hid (dgrow_any G2 D2 _ a w0 h0 W0 H0 (max w0 W0) (max h0 H0) M HO2.out.1 HPK2.out.1 HPK2.out.2 (picks_max _ _) (picks_max _ _) (by have := K.out.1; omega) (by have := K.out.2.2; omega))
      go_wp2_with fail
      refine HG.out.mono ?_
      rintro e w4 ⟨rfl, hT⟩
      have HT := Lib.hid hT
      clear hT
      go_wp2
      go_end0
      refine ⟨rfl, ?_⟩
      rw [HRES.out, if_pos ⟨by rw [HX.out.1]; exact K.out.1, by rw [HX.out.1]; exact K.out.2.1, by rw [HX.out.2]; exact K.out.2.2.1, by rw [HX.out.2]; exact K.out.2.2.2, HDD.out.1, HDD.out.2⟩, HX.out.1, HX.out.2, Int.toNat_natCast, Int.toNat_natCast]
      exact Turn.then HO2.out.2.1 HO2.out.2.2.1 HT.out
theorem done_any (G : Nat → Prop) (d : Dec) (W : World) (a W0 H0 M : Nat) (hd : DOwn G W a d) (hpk : PicOk d W0 H0 M) (hf : d.full = false) (hnum : NumOk d) (hc : d.cmd = 0 ∨ d.cmd = 33 ∨ d.cmd = 35 ∨ d.cmd = 34) :
    Calls Try.prog 35 #[.pointer (some ⟨a, 0, none⟩)] W fun e w' => e = .returned (.tuple #[]) ∧ Turn G W w' a (d.done W0 H0) := by
  rcases hc with hc | hc | hc | hc
  · exact done_none G d W a W0 H0 M hd hpk hf hnum hc
  · exact done_rep G d W a W0 H0 M hd hpk hf hnum hc
  · exact done_color G d W a W0 H0 M hd hpk hf hnum hc
  · exact done_size G d W a W0 H0 M hd hpk hf hnum hc
end Go.Proofs.Ytomcjdonacckfaa.R
