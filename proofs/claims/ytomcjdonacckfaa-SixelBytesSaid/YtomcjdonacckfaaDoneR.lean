/- The document's decoder: Done, printed by port_rdec.py from the program's side. -/
import Derived.Test.YtomcjdonacckfaaColorR
import Derived.Test.YtomcjdonacckfaaDone
namespace Go.Proofs.Ytomcjdonacckfaa.R
open Go.Proofs.Ytomcjdonacckfaa Go.RowKit
set_option linter.unusedVariables false
set_option linter.unusedSimpArgs false
theorem color_any (G : Nat → Prop) (d : Dec) (W : World) (a : Nat) (h : DOwn G W a d) (hl : d.n.length ≤ 5) (hn0 : 0 ≤ d.n.getD 0 0) :
    Calls Try.prog 46 #[.pointer (some ⟨a, 0, none⟩)] W fun e w' => e = .returned (.tuple #[]) ∧ Turn G W w' a d.color := by
  by_cases h1 : 256 ≤ d.n.getD 0 0
  · have e : d.color = d := by unfold Dec.color; rw [if_pos h1]
    rw [e]
    exact color_far G d W a h hl h1
  · obtain ⟨k, hk⟩ : ∃ k : Nat, d.n.getD 0 0 = (k : Int) := ⟨(d.n.getD 0 0).toNat, by omega⟩
    by_cases h2 : d.n.length < 5
    · have e : d.color = { d with now := d.n.getD 0 0 } := by unfold Dec.color; rw [if_neg h1, if_pos (.inl h2)]
      rw [e]
      exact color_few G d W a h h2 (by omega)
    · have e : d.color = if (colOf d).2 = false then { d with now := (k : Int) } else { d with now := (k : Int), l := setReg d.l k (colOf d).1 } := by
        unfold Dec.color
        rw [if_neg h1, hk, Int.toNat_natCast]
        by_cases hc : (colOf d).2 = false
        · rw [if_pos (.inr hc), if_pos hc]
        · rw [if_neg (fun h => h.elim h2 hc), if_neg hc]
      by_cases m1 : d.n.getD 1 0 = 1
      · rw [e]; exact color_hls G d W a k h (by omega) hk (by omega) m1
      · by_cases m2 : d.n.getD 1 0 = 2
        · rw [e]; exact color_pct G d W a k h (by omega) hk (by omega) m2
        · have hc : (colOf d).2 = false := by unfold colOf; rw [if_neg m1, if_neg m2]
          rw [e, if_pos hc]
          exact color_no G d W a k h (by omega) hk (by omega) m1 m2
set_option maxRecDepth 100000 in
set_option maxHeartbeats 8000000 in
theorem done_none (G : Nat → Prop) (d : Dec) (W : World) (a W0 H0 M : Nat) (hd : DOwn G W a d) (hpk : PicOk d W0 H0 M) (hf : d.full = false) (hnum : NumOk d) (hc : d.cmd = 0) :
    Calls Try.prog 35 #[.pointer (some ⟨a, 0, none⟩)] W fun e w' => e = .returned (.tuple #[]) ∧ Turn G W w' a (d.done W0 H0) := by
  have e : d.done W0 H0 = d := by unfold Dec.done; rw [if_pos hc]
  rw [e]
  have HD := Lib.hid hd
  obtain ⟨pv, nv, hb, -⟩ := hd
  have cc : W.cell? ⟨a, 780, none⟩ = some (.int .u8 0) := by rw [← hc]; exact hb.fcmd.1
  clear hb hc e
  go_enter Try.func35, Try.ntmps35
  go_wp2
  exact bodyPost_ret (results_none rfl _ _ _) rfl ⟨rfl, Turn.refl HD.out⟩
set_option maxRecDepth 100000 in
set_option maxHeartbeats 8000000 in
theorem done_color (G : Nat → Prop) (d : Dec) (W : World) (a W0 H0 M : Nat) (hd : DOwn G W a d) (hpk : PicOk d W0 H0 M) (hf : d.full = false) (hnum : NumOk d) (hc : d.cmd = 35) :
    Calls Try.prog 35 #[.pointer (some ⟨a, 0, none⟩)] W fun e w' => e = .returned (.tuple #[]) ∧ Turn G W w' a (d.done W0 H0) := by
  have e : d.done W0 H0 = d.cmdOff.color := by unfold Dec.done; rw [if_neg (by rw [hc]; decide), if_neg (by rw [hc]; decide), if_pos hc]
  rw [e]
  clear e
  have HP := Lib.hid (push_any G d W a hd hnum.len)
  obtain ⟨pv0, nv0, hb0, -⟩ := hd
  have cc : W.cell? ⟨a, 780, none⟩ = some (.int .u8 35) := by rw [← hc]; exact hb0.fcmd.1
  have HNUM := Lib.hid (push_num hnum)
  have HPK := Lib.hid (And.intro hpk (And.intro hf hc))
  obtain ⟨D2, hD2⟩ : ∃ D2, d.cmdOff = D2 := ⟨_, rfl⟩
  try rw [hD2]
  have HD2 := Lib.hid hD2
  clear hb0 hnum hpk hf hc hD2
  go_enter Try.func35, Try.ntmps35
  go_wp2_with fail
  refine HP.out.mono ?_
  rintro e w1 ⟨rfl, hT1⟩
  obtain ⟨V2, hV2⟩ : ∃ V, w1.setCell ⟨a, 780, none⟩ (.int .u8 0) = V := ⟨_, rfl⟩
  have hT2 : Turn G W V2 a D2 := by rw [← hV2, ← HD2.out]; exact hT1.set (fun _ _ h => h.scmd 0) rfl rfl
  obtain ⟨G1, ⟨pv1, nv1, hb1, -⟩, -⟩ := hT1
  obtain ⟨k0, k0'⟩ := hb1.fcmd
  have k1 : w1.cell? ⟨a, 780, none⟩ = some (.int .u8 35) := by rw [← HPK.out.2.2]; exact k0
  obtain ⟨G2, hDO, hs2, hk2⟩ := hT2
  have hnum2 : NumOk D2 := by rw [← HD2.out]; exact ⟨HNUM.out.len, HNUM.out.n, HNUM.out.v⟩
  have HO2 := Lib.hid (And.intro hDO (And.intro hs2 (And.intro hk2 hnum2)))
  obtain ⟨pv, nv, hb, hp, hn, -⟩ := hDO
  clear hb1 k0 hs2 hk2 hnum2
  have HN := Lib.hid (color_any G2 D2 V2 a HO2.out.1 HO2.out.2.2.2.len (HO2.out.2.2.2.n 0).1)
  clear hb hp hn
  go_wp2_with fail
  refine HN.out.mono ?_
  rintro e w2 ⟨rfl, hT⟩
  have HT := Lib.hid hT
  clear hT
  go_wp2
  go_end0
  exact ⟨rfl, Turn.then HO2.out.2.1 HO2.out.2.2.1 HT.out⟩
set_option maxRecDepth 100000 in
set_option maxHeartbeats 8000000 in
theorem done_rep (G : Nat → Prop) (d : Dec) (W : World) (a W0 H0 M : Nat) (hd : DOwn G W a d) (hpk : PicOk d W0 H0 M) (hf : d.full = false) (hnum : NumOk d) (hc : d.cmd = 33) :
    Calls Try.prog 35 #[.pointer (some ⟨a, 0, none⟩)] W fun e w' => e = .returned (.tuple #[]) ∧ Turn G W w' a (d.done W0 H0) := by
  have e : d.done W0 H0 = { d.cmdOff with rep := max (d.cmdOff.n.getD 0 0) 1 } := by unfold Dec.done; rw [if_neg (by rw [hc]; decide), if_pos hc]
  rw [e]
  clear e
  have HP := Lib.hid (push_any G d W a hd hnum.len)
  obtain ⟨pv0, nv0, hb0, -⟩ := hd
  have cc : W.cell? ⟨a, 780, none⟩ = some (.int .u8 33) := by rw [← hc]; exact hb0.fcmd.1
  have HNUM := Lib.hid (push_num hnum)
  have HPK := Lib.hid (And.intro hpk (And.intro hf hc))
  obtain ⟨D2, hD2⟩ : ∃ D2, d.cmdOff = D2 := ⟨_, rfl⟩
  try rw [hD2]
  have HD2 := Lib.hid hD2
  clear hb0 hnum hpk hf hc hD2
  obtain ⟨x0, hx0⟩ : ∃ x, D2.n.getD 0 0 = x := ⟨_, rfl⟩
  rw [hx0]
  obtain ⟨r, hr⟩ : ∃ r, max x0 1 = r := ⟨_, rfl⟩
  rw [hr]
  have hx00 : 0 ≤ x0 := by rw [← hx0, ← HD2.out]; exact (HNUM.out.n 0).1
  have HX0 := Lib.hid hx0
  have HR := Lib.hid hr
  clear hr hx0
  go_enter Try.func35, Try.ntmps35
  go_wp2_with fail
  refine HP.out.mono ?_
  rintro e w1 ⟨rfl, hT1⟩
  obtain ⟨V2, hV2⟩ : ∃ V, w1.setCell ⟨a, 780, none⟩ (.int .u8 0) = V := ⟨_, rfl⟩
  have hT2 : Turn G W V2 a D2 := by rw [← hV2, ← HD2.out]; exact hT1.set (fun _ _ h => h.scmd 0) rfl rfl
  obtain ⟨G1, ⟨pv1, nv1, hb1, -⟩, -⟩ := hT1
  obtain ⟨k0, k0'⟩ := hb1.fcmd
  have k1 : w1.cell? ⟨a, 780, none⟩ = some (.int .u8 33) := by rw [← HPK.out.2.2]; exact k0
  obtain ⟨G2, hDO, hs2, hk2⟩ := hT2
  have hnum2 : NumOk D2 := by rw [← HD2.out]; exact ⟨HNUM.out.len, HNUM.out.n, HNUM.out.v⟩
  have HO2 := Lib.hid (And.intro hDO (And.intro hs2 (And.intro hk2 hnum2)))
  obtain ⟨pv, nv, hb, hp, hn, -⟩ := hDO
  clear hb1 k0 hs2 hk2 hnum2
  have HN := Lib.hid (number_any 0 D2 V2 a pv nv hb hn HO2.out.2.2.2.len)
  rw [HX0.out] at HN
  obtain ⟨j0, j0'⟩ := hb.frep
  obtain ⟨V3, hV3⟩ : ∃ V, V2.setCell ⟨a, 783, none⟩ (.int .i64 x0) = V := ⟨_, rfl⟩
  have hb3 : DBlk V3 a { D2 with rep := x0 } pv nv := by rw [← hV3]; exact hb.srep x0
  obtain ⟨j3, j3'⟩ := hb3.frep
  have hT3 : Turn G2 V2 V3 a { D2 with rep := x0 } := by rw [← hV3]; exact (Turn.refl HO2.out.1).set (fun _ _ h => h.srep x0) rfl rfl
  have HT3 := Lib.hid hT3
  clear hb hp hn hb3 hT3
  go_wp2_with fail
  refine HN.out.mono ?_
  rintro e w2 ⟨rfl, hw2⟩
  rw [hw2]
  clear hw2
  by_cases hz : x0 = 0
  · have hr1 : r = 1 := by rw [← HR.out, hz]; rfl
    subst hr1
    subst hz
    go_wp2
    go_end0
    exact ⟨rfl, Turn.then HO2.out.2.1 HO2.out.2.2.1 (HT3.out.set (fun _ _ h => h.srep 1) rfl rfl)⟩
  · have hr1 : r = x0 := by rw [← HR.out]; omega
    subst hr1
    have gz : (r == 0) = false := by simpa using hz
    go_wp2
    go_end0
    exact ⟨rfl, Turn.then HO2.out.2.1 HO2.out.2.2.1 HT3.out⟩
end Go.Proofs.Ytomcjdonacckfaa.R
