/- One sign behind a command's numbers; sign, whole. -/
import Derived.Test.YtomcjdonacckfaaSignA
namespace Go.Proofs.Ytomcjdonacckfaa
open Go.RowKit
set_option linter.unusedVariables false
set_option linter.unusedSimpArgs false
set_option maxRecDepth 100000 in
set_option maxHeartbeats 16000000 in
theorem signB_full (G : Nat → Prop) (d : Dec) (W : World) (a c M : Nat) (hd : DOwn G W a d) (hok : DecOk M d) (hf : d.full = false) (hc : 33 ≤ c ∧ c ≤ 126) (hcmd : d.cmd ≠ 0) (hnd : c < 48 ∨ 57 < c) (h59 : c ≠ 59) (hfu : (d.done d.w.toNat d.h.toNat).full = true) :
    Calls Try.prog 31 #[.pointer (some ⟨a, 0, none⟩), .int .u8 c] W fun e w' => e = .returned (.tuple #[]) ∧ Turn G W w' a (d.done d.w.toNat d.h.toNat) := by
  have HDN := Lib.hid (done_any G d W a d.w.toNat d.h.toNat M hd hok.pic hf hok.num hok.cmd)
  have hok1 := done_ok hok hf
  obtain ⟨pv, nv, hb, -⟩ := hd
  obtain ⟨k0, -⟩ := hb.fcmd
  obtain ⟨C, hC⟩ : ∃ C, d.cmd = C := ⟨_, rfl⟩
  rw [hC] at k0 hcmd
  have e0 : (C != 0) = true := by simp; exact hcmd
  obtain ⟨D1, hD1⟩ : ∃ D1, d.done d.w.toNat d.h.toNat = D1 := ⟨_, rfl⟩
  rw [hD1] at hok1 hfu HDN ⊢
  have HOK1 := Lib.hid (And.intro hok1 hfu)
  have h59' : ((c : Int) == 59) = false := by simp; omega
  clear hb hC hok hf hcmd hok1 hfu hD1
  rcases hnd with hnd | hnd
  case inl =>
    have g1 : decide (48 ≤ c) = false := decide_eq_false (by omega)
    go_enter Try.func31, Try.ntmps31
    go_wp2_with fail
    refine HDN.out.mono ?_
    rintro e w1 ⟨rfl, hT1⟩
    have HT1 := Lib.hid hT1
    clear hT1
    obtain ⟨G1, ⟨pv1, nv1, hb1, -⟩, -⟩ := HT1.out
    have jf : w1.cell? ⟨a, 778, none⟩ = some (.bool true) := by rw [← HOK1.out.2]; exact hb1.ffull.1
    clear hb1
    go_wp2
    exact bodyPost_ret (results_none rfl _ _ _) rfl ⟨rfl, HT1.out⟩
  case inr =>
    have g1 : decide (48 ≤ c) = true := decide_eq_true (by omega)
    have g2 : decide (c ≤ 57) = false := decide_eq_false (by omega)
    go_enter Try.func31, Try.ntmps31
    go_wp2_with fail
    refine HDN.out.mono ?_
    rintro e w1 ⟨rfl, hT1⟩
    have HT1 := Lib.hid hT1
    clear hT1
    obtain ⟨G1, ⟨pv1, nv1, hb1, -⟩, -⟩ := HT1.out
    have jf : w1.cell? ⟨a, 778, none⟩ = some (.bool true) := by rw [← HOK1.out.2]; exact hb1.ffull.1
    clear hb1
    go_wp2
    exact bodyPost_ret (results_none rfl _ _ _) rfl ⟨rfl, HT1.out⟩
set_option maxRecDepth 100000 in
set_option maxHeartbeats 16000000 in
theorem signB_six (G : Nat → Prop) (d : Dec) (W : World) (a c M : Nat) (hd : DOwn G W a d) (hok : DecOk M d) (hf : d.full = false) (hc : 33 ≤ c ∧ c ≤ 126) (hcmd : d.cmd ≠ 0) (hnd : c < 48 ∨ 57 < c) (h59 : c ≠ 59) (hfu : (d.done d.w.toNat d.h.toNat).full = false) (h63 : 63 ≤ c) :
    Calls Try.prog 31 #[.pointer (some ⟨a, 0, none⟩), .int .u8 c] W fun e w' => e = .returned (.tuple #[]) ∧ Turn G W w' a ((d.done d.w.toNat d.h.toNat).plainSign c) := by
  have HDN := Lib.hid (done_any G d W a d.w.toNat d.h.toNat M hd hok.pic hf hok.num hok.cmd)
  have hok1 := done_ok hok hf
  obtain ⟨pv, nv, hb, -⟩ := hd
  obtain ⟨k0, -⟩ := hb.fcmd
  obtain ⟨C, hC⟩ : ∃ C, d.cmd = C := ⟨_, rfl⟩
  rw [hC] at k0 hcmd
  have e0 : (C != 0) = true := by simp; exact hcmd
  obtain ⟨D1, hD1⟩ : ∃ D1, d.done d.w.toNat d.h.toNat = D1 := ⟨_, rfl⟩
  rw [hD1] at hok1 hfu HDN ⊢
  have HOK1 := Lib.hid (And.intro hok1 hfu)
  have h59' : ((c : Int) == 59) = false := by simp; omega
  clear hb hC hok hf hcmd hok1 hfu hD1
  have g1 : decide (48 ≤ c) = true := decide_eq_true (by omega)
  have g2 : decide (c ≤ 57) = false := decide_eq_false (by omega)
  clear hnd h59
  go_enter Try.func31, Try.ntmps31
  go_wp2_with fail
  refine HDN.out.mono ?_
  rintro e w1 ⟨rfl, hT1⟩
  have HT1 := Lib.hid hT1
  clear hT1
  obtain ⟨G1, ⟨pv1, nv1, hb1, hp1, hn1, o1, o2, o3, hG1⟩, hs1, hk1⟩ := HT1.out
  obtain ⟨R, hR⟩ := nat_of HOK1.out.1.rep.1
  have hRb : R ≤ 65535 := by have := HOK1.out.1.rep.2; omega
  have j0 : w1.cell? ⟨a, 783, none⟩ = some (.int .i64 (R : Int)) := by rw [← hR]; exact hb1.frep.1
  have j0' := hb1.frep.2
  obtain ⟨n, hn⟩ : ∃ n, max R 1 = n := ⟨_, rfl⟩
  have m1 : (if (R : Int) < 1 then 1 else (R : Int)) = (n : Int) := by rw [← hn]; split <;> omega
  have m2 : (if R = 0 then 1 else (R : Int)) = (n : Int) := by rw [← hn]; split <;> omega
  have m3 : (if (R : Int) ≤ 0 then 1 else (R : Int)) = (n : Int) := by rw [← hn]; split <;> omega
  obtain ⟨V1, hV1⟩ : ∃ V, w1.setCell ⟨a, 783, none⟩ (.int .i64 0) = V := ⟨_, rfl⟩
  have hb2 : DBlk V1 a { D1 with rep := 0 } pv1 nv1 := by rw [← hV1]; exact hb1.srep 0
  have HT2 := Lib.hid (show Turn G W V1 a { D1 with rep := 0 } by rw [← hV1]; exact HT1.out.set (fun _ _ h => h.srep 0) rfl rfl)
  have HB2 := Lib.hid hb2
  have HRN := Lib.hid (And.intro hR hn)
  have jf : w1.cell? ⟨a, 778, none⟩ = some (.bool false) := by rw [← HOK1.out.2]; exact hb1.ffull.1
  clear hb1 hp1 hn1 o1 o2 o3 hG1 hs1 hk1 hR hn hb2
  have g63 : decide (63 ≤ c) = true := decide_eq_true h63
  obtain ⟨t, ht⟩ : ∃ t : Nat, c - 63 = t := ⟨_, rfl⟩
  have p1 : IntKind.u8.wrap ((c : Int) - 63) = (t : Int) := by rw [IntKind.wrap_u8]; omega
  have p2 : IntKind.i64.wrap (t : Int) = (t : Int) := IntWalk.i64_in _ (by omega)
  obtain ⟨G2, hDO2, hs2, hk2⟩ := HT2.out
  have hok1 := HOK1.out.1
  have HSX := Lib.hid (sixel_any G2 { D1 with rep := 0 } V1 a t n D1.x.toNat D1.y.toNat D1.w.toNat D1.h.toNat M D1.now.toNat hDO2 ⟨hok1.pic.w, hok1.pic.h, hok1.pic.most, hok1.pic.M, hok1.pic.wb, hok1.pic.hb, hok1.pic.z, hok1.pic.p⟩ HOK1.out.2 (by omega) (by have := HRN.out.2; omega) (show D1.x = _ by have := hok1.x.1; omega) (show D1.y = _ by have := hok1.y.1; omega) (by have := hok1.x.2; omega) (by have := hok1.y.2; omega) (show D1.now = _ by have := hok1.now.1; omega) (by have := hok1.now; omega))
  have HRES := Lib.hid (show D1.plainSign c = ({ D1 with rep := 0 } : Dec).sixel t n D1.x.toNat D1.y.toNat D1.w.toNat D1.h.toNat D1.now.toNat from by
    unfold Dec.plainSign
    rw [if_pos h63, ht, HRN.out.1, show (max (R : Int) 1).toNat = n by have := HRN.out.2; omega])
  have HH2 := Lib.hid (And.intro hs2 hk2)
  clear hDO2 hs2 hk2 hok1 ht
  go_wp2_with fail
  refine HSX.out.mono ?_
  rintro e w9 ⟨rfl, hT9⟩
  have HT9 := Lib.hid hT9
  clear hT9
  go_wp2
  refine bodyPost_ret (results_none rfl _ _ _) rfl ⟨rfl, ?_⟩
  rw [HRES.out]
  exact Turn.then HH2.out.1 HH2.out.2 HT9.out
set_option maxRecDepth 100000 in
set_option maxHeartbeats 16000000 in
theorem signB_minus (G : Nat → Prop) (d : Dec) (W : World) (a c M : Nat) (hd : DOwn G W a d) (hok : DecOk M d) (hf : d.full = false) (hc : 33 ≤ c ∧ c ≤ 126) (hcmd : d.cmd ≠ 0) (hnd : c < 48 ∨ 57 < c) (h59 : c ≠ 59) (hfu : (d.done d.w.toNat d.h.toNat).full = false) (h45 : c = 45) :
    Calls Try.prog 31 #[.pointer (some ⟨a, 0, none⟩), .int .u8 c] W fun e w' => e = .returned (.tuple #[]) ∧ Turn G W w' a ((d.done d.w.toNat d.h.toNat).plainSign c) := by
  subst h45
  have HDN := Lib.hid (done_any G d W a d.w.toNat d.h.toNat M hd hok.pic hf hok.num hok.cmd)
  have hok1 := done_ok hok hf
  obtain ⟨pv, nv, hb, -⟩ := hd
  obtain ⟨k0, -⟩ := hb.fcmd
  obtain ⟨C, hC⟩ : ∃ C, d.cmd = C := ⟨_, rfl⟩
  rw [hC] at k0 hcmd
  have e0 : (C != 0) = true := by simp; exact hcmd
  obtain ⟨D1, hD1⟩ : ∃ D1, d.done d.w.toNat d.h.toNat = D1 := ⟨_, rfl⟩
  rw [hD1] at hok1 hfu HDN ⊢
  have HOK1 := Lib.hid (And.intro hok1 hfu)
  clear hb hC hok hf hcmd hok1 hfu hD1
  clear hnd h59
  go_enter Try.func31, Try.ntmps31
  go_wp2_with fail
  refine HDN.out.mono ?_
  rintro e w1 ⟨rfl, hT1⟩
  have HT1 := Lib.hid hT1
  clear hT1
  obtain ⟨G1, ⟨pv1, nv1, hb1, hp1, hn1, o1, o2, o3, hG1⟩, hs1, hk1⟩ := HT1.out
  obtain ⟨R, hR⟩ := nat_of HOK1.out.1.rep.1
  have hRb : R ≤ 65535 := by have := HOK1.out.1.rep.2; omega
  have j0 : w1.cell? ⟨a, 783, none⟩ = some (.int .i64 (R : Int)) := by rw [← hR]; exact hb1.frep.1
  have j0' := hb1.frep.2
  obtain ⟨n, hn⟩ : ∃ n, max R 1 = n := ⟨_, rfl⟩
  have m1 : (if (R : Int) < 1 then 1 else (R : Int)) = (n : Int) := by rw [← hn]; split <;> omega
  have m2 : (if R = 0 then 1 else (R : Int)) = (n : Int) := by rw [← hn]; split <;> omega
  have m3 : (if (R : Int) ≤ 0 then 1 else (R : Int)) = (n : Int) := by rw [← hn]; split <;> omega
  obtain ⟨V1, hV1⟩ : ∃ V, w1.setCell ⟨a, 783, none⟩ (.int .i64 0) = V := ⟨_, rfl⟩
  have hb2 : DBlk V1 a { D1 with rep := 0 } pv1 nv1 := by rw [← hV1]; exact hb1.srep 0
  have HT2 := Lib.hid (show Turn G W V1 a { D1 with rep := 0 } by rw [← hV1]; exact HT1.out.set (fun _ _ h => h.srep 0) rfl rfl)
  have HB2 := Lib.hid hb2
  have HRN := Lib.hid (And.intro hR hn)
  have jf : w1.cell? ⟨a, 778, none⟩ = some (.bool false) := by rw [← HOK1.out.2]; exact hb1.ffull.1
  clear hb1 hp1 hn1 o1 o2 o3 hG1 hs1 hk1 hR hn hb2
  obtain ⟨Y, hY⟩ := nat_of HOK1.out.1.y.1
  have hYb : Y ≤ 1048576 := by have := HOK1.out.1.y.2; omega
  have y0 : V1.cell? ⟨a, 772, none⟩ = some (.int .i64 (Y : Int)) := by rw [← hY]; exact HB2.out.fy.1
  have y0' := HB2.out.fy.2
  have p1 : IntKind.i64.wrap ((Y : Int) + 6) = (Y : Int) + 6 := IntWalk.i64_in _ (by omega)
  obtain ⟨r, hr⟩ : ∃ r, min ((Y : Int) + 6) 1048576 = r := ⟨_, rfl⟩
  have p2 : (if (Y : Int) + 6 < 1048576 then (Y : Int) + 6 else 1048576) = r := by
    rw [← hr]
    by_cases h9 : (Y : Int) + 6 < 1048576
    · rw [if_pos h9, Int.min_eq_left (Int.le_of_lt h9)]
    · rw [if_neg h9, Int.min_eq_right (Int.not_lt.1 h9)]
  have p3 : (if 1048576 < (Y : Int) + 6 then 1048576 else (Y : Int) + 6) = r := by
    rw [← hr]
    by_cases h9 : 1048576 < (Y : Int) + 6
    · rw [if_pos h9, Int.min_eq_right (Int.le_of_lt h9)]
    · rw [if_neg h9, Int.min_eq_left (Int.not_lt.1 h9)]
  obtain ⟨V2, hV2⟩ : ∃ V, V1.setCell ⟨a, 772, none⟩ (.int .i64 r) = V := ⟨_, rfl⟩
  have hb3 := HB2.out.sy r
  rw [hV2] at hb3
  obtain ⟨z0, z0'⟩ := hb3.fdown
  obtain ⟨V3, hV3⟩ : ∃ V, V2.setCell ⟨a, 777, none⟩ (.bool true) = V := ⟨_, rfl⟩
  have hb4 := hb3.sdown true
  rw [hV3] at hb4
  obtain ⟨x0, x0'⟩ := hb4.fx
  have HT3 := Lib.hid (show Turn G W V3 a _ by rw [← hV3, ← hV2]; exact (HT2.out.set (fun _ _ h => h.sy r) rfl rfl).set (fun _ _ h => h.sdown true) rfl rfl)
  have HRES := Lib.hid (show D1.plainSign 45 = { D1 with rep := 0, y := r, down := true, x := 0 } from by
    unfold Dec.plainSign
    rw [if_neg (by omega), if_neg (by omega), if_pos rfl, hY, hr])
  clear hb3 hb4 hr hY
  go_wp2
  go_end0
  refine ⟨rfl, ?_⟩
  rw [HRES.out]
  exact HT3.out.set (fun _ _ h => h.sx 0) rfl rfl
set_option maxRecDepth 100000 in
set_option maxHeartbeats 16000000 in
theorem signB_doll (G : Nat → Prop) (d : Dec) (W : World) (a c M : Nat) (hd : DOwn G W a d) (hok : DecOk M d) (hf : d.full = false) (hc : 33 ≤ c ∧ c ≤ 126) (hcmd : d.cmd ≠ 0) (hnd : c < 48 ∨ 57 < c) (h59 : c ≠ 59) (hfu : (d.done d.w.toNat d.h.toNat).full = false) (h36 : c = 36) :
    Calls Try.prog 31 #[.pointer (some ⟨a, 0, none⟩), .int .u8 c] W fun e w' => e = .returned (.tuple #[]) ∧ Turn G W w' a ((d.done d.w.toNat d.h.toNat).plainSign c) := by
  subst h36
  have HDN := Lib.hid (done_any G d W a d.w.toNat d.h.toNat M hd hok.pic hf hok.num hok.cmd)
  have hok1 := done_ok hok hf
  obtain ⟨pv, nv, hb, -⟩ := hd
  obtain ⟨k0, -⟩ := hb.fcmd
  obtain ⟨C, hC⟩ : ∃ C, d.cmd = C := ⟨_, rfl⟩
  rw [hC] at k0 hcmd
  have e0 : (C != 0) = true := by simp; exact hcmd
  obtain ⟨D1, hD1⟩ : ∃ D1, d.done d.w.toNat d.h.toNat = D1 := ⟨_, rfl⟩
  rw [hD1] at hok1 hfu HDN ⊢
  have HOK1 := Lib.hid (And.intro hok1 hfu)
  clear hb hC hok hf hcmd hok1 hfu hD1
  clear hnd h59
  go_enter Try.func31, Try.ntmps31
  go_wp2_with fail
  refine HDN.out.mono ?_
  rintro e w1 ⟨rfl, hT1⟩
  have HT1 := Lib.hid hT1
  clear hT1
  obtain ⟨G1, ⟨pv1, nv1, hb1, hp1, hn1, o1, o2, o3, hG1⟩, hs1, hk1⟩ := HT1.out
  obtain ⟨R, hR⟩ := nat_of HOK1.out.1.rep.1
  have hRb : R ≤ 65535 := by have := HOK1.out.1.rep.2; omega
  have j0 : w1.cell? ⟨a, 783, none⟩ = some (.int .i64 (R : Int)) := by rw [← hR]; exact hb1.frep.1
  have j0' := hb1.frep.2
  obtain ⟨n, hn⟩ : ∃ n, max R 1 = n := ⟨_, rfl⟩
  have m1 : (if (R : Int) < 1 then 1 else (R : Int)) = (n : Int) := by rw [← hn]; split <;> omega
  have m2 : (if R = 0 then 1 else (R : Int)) = (n : Int) := by rw [← hn]; split <;> omega
  have m3 : (if (R : Int) ≤ 0 then 1 else (R : Int)) = (n : Int) := by rw [← hn]; split <;> omega
  obtain ⟨V1, hV1⟩ : ∃ V, w1.setCell ⟨a, 783, none⟩ (.int .i64 0) = V := ⟨_, rfl⟩
  have hb2 : DBlk V1 a { D1 with rep := 0 } pv1 nv1 := by rw [← hV1]; exact hb1.srep 0
  have HT2 := Lib.hid (show Turn G W V1 a { D1 with rep := 0 } by rw [← hV1]; exact HT1.out.set (fun _ _ h => h.srep 0) rfl rfl)
  have HB2 := Lib.hid hb2
  have HRN := Lib.hid (And.intro hR hn)
  have jf : w1.cell? ⟨a, 778, none⟩ = some (.bool false) := by rw [← HOK1.out.2]; exact hb1.ffull.1
  clear hb1 hp1 hn1 o1 o2 o3 hG1 hs1 hk1 hR hn hb2
  obtain ⟨x0, x0'⟩ := HB2.out.fx
  have HRES := Lib.hid (show D1.plainSign 36 = { D1 with rep := 0, x := 0 } from by
    unfold Dec.plainSign
    rw [if_neg (by omega), if_neg (by omega), if_neg (by omega), if_pos rfl])
  go_wp2
  go_end0
  refine ⟨rfl, ?_⟩
  rw [HRES.out]
  exact HT2.out.set (fun _ _ h => h.sx 0) rfl rfl
set_option maxRecDepth 100000 in
set_option maxHeartbeats 16000000 in
theorem signB_other (G : Nat → Prop) (d : Dec) (W : World) (a c M : Nat) (hd : DOwn G W a d) (hok : DecOk M d) (hf : d.full = false) (hc : 33 ≤ c ∧ c ≤ 126) (hcmd : d.cmd ≠ 0) (hnd : c < 48 ∨ 57 < c) (h59 : c ≠ 59) (hfu : (d.done d.w.toNat d.h.toNat).full = false) (hoth : ¬ 63 ≤ c ∧ c ≠ 33 ∧ c ≠ 35 ∧ c ≠ 34 ∧ c ≠ 45 ∧ c ≠ 36) :
    Calls Try.prog 31 #[.pointer (some ⟨a, 0, none⟩), .int .u8 c] W fun e w' => e = .returned (.tuple #[]) ∧ Turn G W w' a ((d.done d.w.toNat d.h.toNat).plainSign c) := by
  have HDN := Lib.hid (done_any G d W a d.w.toNat d.h.toNat M hd hok.pic hf hok.num hok.cmd)
  have hok1 := done_ok hok hf
  obtain ⟨pv, nv, hb, -⟩ := hd
  obtain ⟨k0, -⟩ := hb.fcmd
  obtain ⟨C, hC⟩ : ∃ C, d.cmd = C := ⟨_, rfl⟩
  rw [hC] at k0 hcmd
  have e0 : (C != 0) = true := by simp; exact hcmd
  obtain ⟨D1, hD1⟩ : ∃ D1, d.done d.w.toNat d.h.toNat = D1 := ⟨_, rfl⟩
  rw [hD1] at hok1 hfu HDN ⊢
  have HOK1 := Lib.hid (And.intro hok1 hfu)
  have h59' : ((c : Int) == 59) = false := by simp; omega
  clear hb hC hok hf hcmd hok1 hfu hD1
  clear h59
  rcases hnd with hnd | hnd
  case inl =>
    have g1 : decide (48 ≤ c) = false := decide_eq_false (by omega)
    go_enter Try.func31, Try.ntmps31
    go_wp2_with fail
    refine HDN.out.mono ?_
    rintro e w1 ⟨rfl, hT1⟩
    have HT1 := Lib.hid hT1
    clear hT1
    obtain ⟨G1, ⟨pv1, nv1, hb1, hp1, hn1, o1, o2, o3, hG1⟩, hs1, hk1⟩ := HT1.out
    obtain ⟨R, hR⟩ := nat_of HOK1.out.1.rep.1
    have hRb : R ≤ 65535 := by have := HOK1.out.1.rep.2; omega
    have j0 : w1.cell? ⟨a, 783, none⟩ = some (.int .i64 (R : Int)) := by rw [← hR]; exact hb1.frep.1
    have j0' := hb1.frep.2
    obtain ⟨n, hn⟩ : ∃ n, max R 1 = n := ⟨_, rfl⟩
    have m1 : (if (R : Int) < 1 then 1 else (R : Int)) = (n : Int) := by rw [← hn]; split <;> omega
    have m2 : (if R = 0 then 1 else (R : Int)) = (n : Int) := by rw [← hn]; split <;> omega
    have m3 : (if (R : Int) ≤ 0 then 1 else (R : Int)) = (n : Int) := by rw [← hn]; split <;> omega
    obtain ⟨V1, hV1⟩ : ∃ V, w1.setCell ⟨a, 783, none⟩ (.int .i64 0) = V := ⟨_, rfl⟩
    have hb2 : DBlk V1 a { D1 with rep := 0 } pv1 nv1 := by rw [← hV1]; exact hb1.srep 0
    have HT2 := Lib.hid (show Turn G W V1 a { D1 with rep := 0 } by rw [← hV1]; exact HT1.out.set (fun _ _ h => h.srep 0) rfl rfl)
    have HB2 := Lib.hid hb2
    have HRN := Lib.hid (And.intro hR hn)
    have jf : w1.cell? ⟨a, 778, none⟩ = some (.bool false) := by rw [← HOK1.out.2]; exact hb1.ffull.1
    clear hb1 hp1 hn1 o1 o2 o3 hG1 hs1 hk1 hR hn hb2
    have g63 : decide (63 ≤ c) = false := decide_eq_false hoth.1
    have e1 : ((c : Int) == 33) = false := by simp; omega
    have e2 : ((c : Int) == 35) = false := by simp; omega
    have e3 : ((c : Int) == 34) = false := by simp; omega
    have e4 : ((c : Int) == 45) = false := by simp; omega
    have e5 : ((c : Int) == 36) = false := by simp; omega
    have HRES := Lib.hid (show D1.plainSign c = { D1 with rep := 0 } from by
      unfold Dec.plainSign
      rw [if_neg hoth.1, if_neg (by omega), if_neg (by omega), if_neg (by omega)])
    go_wp2
    go_end0
    refine ⟨rfl, ?_⟩
    rw [HRES.out]
    exact HT2.out
  case inr =>
    have g1 : decide (48 ≤ c) = true := decide_eq_true (by omega)
    have g2 : decide (c ≤ 57) = false := decide_eq_false (by omega)
    go_enter Try.func31, Try.ntmps31
    go_wp2_with fail
    refine HDN.out.mono ?_
    rintro e w1 ⟨rfl, hT1⟩
    have HT1 := Lib.hid hT1
    clear hT1
    obtain ⟨G1, ⟨pv1, nv1, hb1, hp1, hn1, o1, o2, o3, hG1⟩, hs1, hk1⟩ := HT1.out
    obtain ⟨R, hR⟩ := nat_of HOK1.out.1.rep.1
    have hRb : R ≤ 65535 := by have := HOK1.out.1.rep.2; omega
    have j0 : w1.cell? ⟨a, 783, none⟩ = some (.int .i64 (R : Int)) := by rw [← hR]; exact hb1.frep.1
    have j0' := hb1.frep.2
    obtain ⟨n, hn⟩ : ∃ n, max R 1 = n := ⟨_, rfl⟩
    have m1 : (if (R : Int) < 1 then 1 else (R : Int)) = (n : Int) := by rw [← hn]; split <;> omega
    have m2 : (if R = 0 then 1 else (R : Int)) = (n : Int) := by rw [← hn]; split <;> omega
    have m3 : (if (R : Int) ≤ 0 then 1 else (R : Int)) = (n : Int) := by rw [← hn]; split <;> omega
    obtain ⟨V1, hV1⟩ : ∃ V, w1.setCell ⟨a, 783, none⟩ (.int .i64 0) = V := ⟨_, rfl⟩
    have hb2 : DBlk V1 a { D1 with rep := 0 } pv1 nv1 := by rw [← hV1]; exact hb1.srep 0
    have HT2 := Lib.hid (show Turn G W V1 a { D1 with rep := 0 } by rw [← hV1]; exact HT1.out.set (fun _ _ h => h.srep 0) rfl rfl)
    have HB2 := Lib.hid hb2
    have HRN := Lib.hid (And.intro hR hn)
    have jf : w1.cell? ⟨a, 778, none⟩ = some (.bool false) := by rw [← HOK1.out.2]; exact hb1.ffull.1
    clear hb1 hp1 hn1 o1 o2 o3 hG1 hs1 hk1 hR hn hb2
    have g63 : decide (63 ≤ c) = false := decide_eq_false hoth.1
    have e1 : ((c : Int) == 33) = false := by simp; omega
    have e2 : ((c : Int) == 35) = false := by simp; omega
    have e3 : ((c : Int) == 34) = false := by simp; omega
    have e4 : ((c : Int) == 45) = false := by simp; omega
    have e5 : ((c : Int) == 36) = false := by simp; omega
    have HRES := Lib.hid (show D1.plainSign c = { D1 with rep := 0 } from by
      unfold Dec.plainSign
      rw [if_neg hoth.1, if_neg (by omega), if_neg (by omega), if_neg (by omega)])
    go_wp2
    go_end0
    refine ⟨rfl, ?_⟩
    rw [HRES.out]
    exact HT2.out
set_option maxRecDepth 100000 in
set_option maxHeartbeats 16000000 in
theorem signB_cmd33 (G : Nat → Prop) (d : Dec) (W : World) (a c M : Nat) (hd : DOwn G W a d) (hok : DecOk M d) (hf : d.full = false) (hc : 33 ≤ c ∧ c ≤ 126) (hcmd : d.cmd ≠ 0) (hnd : c < 48 ∨ 57 < c) (h59 : c ≠ 59) (hfu : (d.done d.w.toNat d.h.toNat).full = false) (hk : c = 33) :
    Calls Try.prog 31 #[.pointer (some ⟨a, 0, none⟩), .int .u8 c] W fun e w' => e = .returned (.tuple #[]) ∧ Turn G W w' a ((d.done d.w.toNat d.h.toNat).plainSign c) := by
  subst hk
  have HDN := Lib.hid (done_any G d W a d.w.toNat d.h.toNat M hd hok.pic hf hok.num hok.cmd)
  have hok1 := done_ok hok hf
  obtain ⟨pv, nv, hb, -⟩ := hd
  obtain ⟨k0, -⟩ := hb.fcmd
  obtain ⟨C, hC⟩ : ∃ C, d.cmd = C := ⟨_, rfl⟩
  rw [hC] at k0 hcmd
  have e0 : (C != 0) = true := by simp; exact hcmd
  obtain ⟨D1, hD1⟩ : ∃ D1, d.done d.w.toNat d.h.toNat = D1 := ⟨_, rfl⟩
  rw [hD1] at hok1 hfu HDN ⊢
  have HOK1 := Lib.hid (And.intro hok1 hfu)
  clear hb hC hok hf hcmd hok1 hfu hD1
  clear hnd h59
  go_enter Try.func31, Try.ntmps31
  go_wp2_with fail
  refine HDN.out.mono ?_
  rintro e w1 ⟨rfl, hT1⟩
  have HT1 := Lib.hid hT1
  clear hT1
  obtain ⟨G1, ⟨pv1, nv1, hb1, hp1, hn1, o1, o2, o3, hG1⟩, hs1, hk1⟩ := HT1.out
  obtain ⟨R, hR⟩ := nat_of HOK1.out.1.rep.1
  have hRb : R ≤ 65535 := by have := HOK1.out.1.rep.2; omega
  have j0 : w1.cell? ⟨a, 783, none⟩ = some (.int .i64 (R : Int)) := by rw [← hR]; exact hb1.frep.1
  have j0' := hb1.frep.2
  obtain ⟨n, hn⟩ : ∃ n, max R 1 = n := ⟨_, rfl⟩
  have m1 : (if (R : Int) < 1 then 1 else (R : Int)) = (n : Int) := by rw [← hn]; split <;> omega
  have m2 : (if R = 0 then 1 else (R : Int)) = (n : Int) := by rw [← hn]; split <;> omega
  have m3 : (if (R : Int) ≤ 0 then 1 else (R : Int)) = (n : Int) := by rw [← hn]; split <;> omega
  obtain ⟨V1, hV1⟩ : ∃ V, w1.setCell ⟨a, 783, none⟩ (.int .i64 0) = V := ⟨_, rfl⟩
  have hb2 : DBlk V1 a { D1 with rep := 0 } pv1 nv1 := by rw [← hV1]; exact hb1.srep 0
  have HT2 := Lib.hid (show Turn G W V1 a { D1 with rep := 0 } by rw [← hV1]; exact HT1.out.set (fun _ _ h => h.srep 0) rfl rfl)
  have HB2 := Lib.hid hb2
  have HRN := Lib.hid (And.intro hR hn)
  have jf : w1.cell? ⟨a, 778, none⟩ = some (.bool false) := by rw [← HOK1.out.2]; exact hb1.ffull.1
  clear hb1 hp1 hn1 o1 o2 o3 hG1 hs1 hk1 hR hn hb2
  obtain ⟨G2, ⟨pv2, nv2, hb3, hp3, hn3, o1, o2, o3, hG2⟩, hs2, hk2⟩ := HT2.out
  obtain ⟨na, ncap, hnv, -, hncap, hncm, hnil, -⟩ := hn3.shape
  obtain ⟨nl, hnl⟩ : ∃ nl, ({ D1 with rep := 0 } : Dec).n.length = nl := ⟨_, rfl⟩
  rw [hnl] at hnv hncap
  subst hnv
  have hz := hn3.zero
  have hob : (Value.slice na 0 ncap).ownBlock = (Value.slice na nl ncap).ownBlock := by cases na <;> rfl
  obtain ⟨WR, hWR⟩ : ∃ WR, V1.drew = WR := ⟨_, rfl⟩
  have hkR : Kept (fun _ => False) V1 WR := by rw [← hWR]; exact (Kept.refl _ _).drew
  have hbR : DBlk WR a { D1 with rep := 0 } pv2 (.slice na nl ncap) := hb3.kept hkR id
  obtain ⟨u0, u0'⟩ := hbR.fcmd
  obtain ⟨u1, u1'⟩ := hbR.fn
  have hb4 := hbR.scmd (33 : Int)
  obtain ⟨U1, hU1⟩ : ∃ U, WR.setCell ⟨a, 780, none⟩ (.int .u8 33) = U := ⟨_, rfl⟩
  have hb4' : DBlk U1 a { D1 with rep := 0, cmd := (33 : Int) } pv2 (.slice na nl ncap) := by rw [← hU1]; exact hb4
  obtain ⟨v1, v1'⟩ := hb4'.fn
  obtain ⟨U2, hU2⟩ : ∃ U, U1.setCell ⟨a, 781, none⟩ (.slice na 0 ncap) = U := ⟨_, rfl⟩
  have hb5 : DBlk U2 a { D1 with rep := 0, cmd := (33 : Int), n := [] } pv2 (.slice na 0 ncap) := by rw [← hU2]; exact hb4'.sn (.slice na 0 ncap) []
  obtain ⟨v2, v2'⟩ := hb5.fv
  have kA : Kept (fun i => i = a) WR ((U2).setCell ⟨a, 782, none⟩ (.int .i64 0)) := by
    rw [← hU2, ← hU1]
    exact (((Kept.refl (fun i => i = a) WR).setCell (p := ⟨a, 780, none⟩) (.inl rfl) _).setCell (p := ⟨a, 781, none⟩) (.inl rfl) _).setCell (p := ⟨a, 782, none⟩) (.inl rfl) _
  have hT5 : Turn G W ((U2).setCell ⟨a, 782, none⟩ (.int .i64 0)) a { D1 with rep := 0, cmd := (33 : Int), n := [], v := 0 } := by
    refine Turn.then hs2 (hk2.then (hkR.mono fun _ _ h => h.elim)) ⟨G2, ⟨pv2, .slice na 0 ncap, hb5.sv 0, (hp3.kept hkR (fun _ _ => id)).kept kA (fun b hb (hS : b = a) => o1 (by rw [hb, hS])), (hz.kept hkR (fun _ _ => id)).kept kA (fun b hb (hS : b = a) => o2 (by rw [← hob, hb, hS])), o1, (by rw [hob]; exact o2), (by rw [hob]; exact o3), (by rw [hob]; exact hG2)⟩, fun i h => .inl h, kA.mono fun i _ (hi : i = a) => by rw [hi]; exact (hG2 a).2 (.inl rfl)⟩
  have HT5 := Lib.hid hT5
  have HRES := Lib.hid (show D1.plainSign 33 = { D1 with rep := 0, cmd := (33 : Int), n := [], v := 0 } from by
    unfold Dec.plainSign
    rw [if_neg (by omega), if_pos (by omega)]; rfl)
  clear hb3 hp3 hn3 o1 o2 o3 hG2 hob hs2 hk2 hncm hnil hnl hz hkR hbR hb4 hb4' hb5 kA hT5
  go_wp2
  go_region_law (fail)
  all_goals
    go_wp2
    go_end0
    refine ⟨rfl, ?_⟩
    rw [HRES.out]
    exact HT5.out
set_option maxRecDepth 100000 in
set_option maxHeartbeats 16000000 in
theorem signB_cmd34 (G : Nat → Prop) (d : Dec) (W : World) (a c M : Nat) (hd : DOwn G W a d) (hok : DecOk M d) (hf : d.full = false) (hc : 33 ≤ c ∧ c ≤ 126) (hcmd : d.cmd ≠ 0) (hnd : c < 48 ∨ 57 < c) (h59 : c ≠ 59) (hfu : (d.done d.w.toNat d.h.toNat).full = false) (hk : c = 34) :
    Calls Try.prog 31 #[.pointer (some ⟨a, 0, none⟩), .int .u8 c] W fun e w' => e = .returned (.tuple #[]) ∧ Turn G W w' a ((d.done d.w.toNat d.h.toNat).plainSign c) := by
  subst hk
  have HDN := Lib.hid (done_any G d W a d.w.toNat d.h.toNat M hd hok.pic hf hok.num hok.cmd)
  have hok1 := done_ok hok hf
  obtain ⟨pv, nv, hb, -⟩ := hd
  obtain ⟨k0, -⟩ := hb.fcmd
  obtain ⟨C, hC⟩ : ∃ C, d.cmd = C := ⟨_, rfl⟩
  rw [hC] at k0 hcmd
  have e0 : (C != 0) = true := by simp; exact hcmd
  obtain ⟨D1, hD1⟩ : ∃ D1, d.done d.w.toNat d.h.toNat = D1 := ⟨_, rfl⟩
  rw [hD1] at hok1 hfu HDN ⊢
  have HOK1 := Lib.hid (And.intro hok1 hfu)
  clear hb hC hok hf hcmd hok1 hfu hD1
  clear hnd h59
  go_enter Try.func31, Try.ntmps31
  go_wp2_with fail
  refine HDN.out.mono ?_
  rintro e w1 ⟨rfl, hT1⟩
  have HT1 := Lib.hid hT1
  clear hT1
  obtain ⟨G1, ⟨pv1, nv1, hb1, hp1, hn1, o1, o2, o3, hG1⟩, hs1, hk1⟩ := HT1.out
  obtain ⟨R, hR⟩ := nat_of HOK1.out.1.rep.1
  have hRb : R ≤ 65535 := by have := HOK1.out.1.rep.2; omega
  have j0 : w1.cell? ⟨a, 783, none⟩ = some (.int .i64 (R : Int)) := by rw [← hR]; exact hb1.frep.1
  have j0' := hb1.frep.2
  obtain ⟨n, hn⟩ : ∃ n, max R 1 = n := ⟨_, rfl⟩
  have m1 : (if (R : Int) < 1 then 1 else (R : Int)) = (n : Int) := by rw [← hn]; split <;> omega
  have m2 : (if R = 0 then 1 else (R : Int)) = (n : Int) := by rw [← hn]; split <;> omega
  have m3 : (if (R : Int) ≤ 0 then 1 else (R : Int)) = (n : Int) := by rw [← hn]; split <;> omega
  obtain ⟨V1, hV1⟩ : ∃ V, w1.setCell ⟨a, 783, none⟩ (.int .i64 0) = V := ⟨_, rfl⟩
  have hb2 : DBlk V1 a { D1 with rep := 0 } pv1 nv1 := by rw [← hV1]; exact hb1.srep 0
  have HT2 := Lib.hid (show Turn G W V1 a { D1 with rep := 0 } by rw [← hV1]; exact HT1.out.set (fun _ _ h => h.srep 0) rfl rfl)
  have HB2 := Lib.hid hb2
  have HRN := Lib.hid (And.intro hR hn)
  have jf : w1.cell? ⟨a, 778, none⟩ = some (.bool false) := by rw [← HOK1.out.2]; exact hb1.ffull.1
  clear hb1 hp1 hn1 o1 o2 o3 hG1 hs1 hk1 hR hn hb2
  obtain ⟨G2, ⟨pv2, nv2, hb3, hp3, hn3, o1, o2, o3, hG2⟩, hs2, hk2⟩ := HT2.out
  obtain ⟨na, ncap, hnv, -, hncap, hncm, hnil, -⟩ := hn3.shape
  obtain ⟨nl, hnl⟩ : ∃ nl, ({ D1 with rep := 0 } : Dec).n.length = nl := ⟨_, rfl⟩
  rw [hnl] at hnv hncap
  subst hnv
  have hz := hn3.zero
  have hob : (Value.slice na 0 ncap).ownBlock = (Value.slice na nl ncap).ownBlock := by cases na <;> rfl
  obtain ⟨WR, hWR⟩ : ∃ WR, V1.drew = WR := ⟨_, rfl⟩
  have hkR : Kept (fun _ => False) V1 WR := by rw [← hWR]; exact (Kept.refl _ _).drew
  have hbR : DBlk WR a { D1 with rep := 0 } pv2 (.slice na nl ncap) := hb3.kept hkR id
  obtain ⟨u0, u0'⟩ := hbR.fcmd
  obtain ⟨u1, u1'⟩ := hbR.fn
  have hb4 := hbR.scmd (34 : Int)
  obtain ⟨U1, hU1⟩ : ∃ U, WR.setCell ⟨a, 780, none⟩ (.int .u8 34) = U := ⟨_, rfl⟩
  have hb4' : DBlk U1 a { D1 with rep := 0, cmd := (34 : Int) } pv2 (.slice na nl ncap) := by rw [← hU1]; exact hb4
  obtain ⟨v1, v1'⟩ := hb4'.fn
  obtain ⟨U2, hU2⟩ : ∃ U, U1.setCell ⟨a, 781, none⟩ (.slice na 0 ncap) = U := ⟨_, rfl⟩
  have hb5 : DBlk U2 a { D1 with rep := 0, cmd := (34 : Int), n := [] } pv2 (.slice na 0 ncap) := by rw [← hU2]; exact hb4'.sn (.slice na 0 ncap) []
  obtain ⟨v2, v2'⟩ := hb5.fv
  have kA : Kept (fun i => i = a) WR ((U2).setCell ⟨a, 782, none⟩ (.int .i64 0)) := by
    rw [← hU2, ← hU1]
    exact (((Kept.refl (fun i => i = a) WR).setCell (p := ⟨a, 780, none⟩) (.inl rfl) _).setCell (p := ⟨a, 781, none⟩) (.inl rfl) _).setCell (p := ⟨a, 782, none⟩) (.inl rfl) _
  have hT5 : Turn G W ((U2).setCell ⟨a, 782, none⟩ (.int .i64 0)) a { D1 with rep := 0, cmd := (34 : Int), n := [], v := 0 } := by
    refine Turn.then hs2 (hk2.then (hkR.mono fun _ _ h => h.elim)) ⟨G2, ⟨pv2, .slice na 0 ncap, hb5.sv 0, (hp3.kept hkR (fun _ _ => id)).kept kA (fun b hb (hS : b = a) => o1 (by rw [hb, hS])), (hz.kept hkR (fun _ _ => id)).kept kA (fun b hb (hS : b = a) => o2 (by rw [← hob, hb, hS])), o1, (by rw [hob]; exact o2), (by rw [hob]; exact o3), (by rw [hob]; exact hG2)⟩, fun i h => .inl h, kA.mono fun i _ (hi : i = a) => by rw [hi]; exact (hG2 a).2 (.inl rfl)⟩
  have HT5 := Lib.hid hT5
  have HRES := Lib.hid (show D1.plainSign 34 = { D1 with rep := 0, cmd := (34 : Int), n := [], v := 0 } from by
    unfold Dec.plainSign
    rw [if_neg (by omega), if_pos (by omega)]; rfl)
  clear hb3 hp3 hn3 o1 o2 o3 hG2 hob hs2 hk2 hncm hnil hnl hz hkR hbR hb4 hb4' hb5 kA hT5
  go_wp2
  go_region_law (fail)
  all_goals
    go_wp2
    go_end0
    refine ⟨rfl, ?_⟩
    rw [HRES.out]
    exact HT5.out
set_option maxRecDepth 100000 in
set_option maxHeartbeats 16000000 in
theorem signB_cmd35 (G : Nat → Prop) (d : Dec) (W : World) (a c M : Nat) (hd : DOwn G W a d) (hok : DecOk M d) (hf : d.full = false) (hc : 33 ≤ c ∧ c ≤ 126) (hcmd : d.cmd ≠ 0) (hnd : c < 48 ∨ 57 < c) (h59 : c ≠ 59) (hfu : (d.done d.w.toNat d.h.toNat).full = false) (hk : c = 35) :
    Calls Try.prog 31 #[.pointer (some ⟨a, 0, none⟩), .int .u8 c] W fun e w' => e = .returned (.tuple #[]) ∧ Turn G W w' a ((d.done d.w.toNat d.h.toNat).plainSign c) := by
  subst hk
  have HDN := Lib.hid (done_any G d W a d.w.toNat d.h.toNat M hd hok.pic hf hok.num hok.cmd)
  have hok1 := done_ok hok hf
  obtain ⟨pv, nv, hb, -⟩ := hd
  obtain ⟨k0, -⟩ := hb.fcmd
  obtain ⟨C, hC⟩ : ∃ C, d.cmd = C := ⟨_, rfl⟩
  rw [hC] at k0 hcmd
  have e0 : (C != 0) = true := by simp; exact hcmd
  obtain ⟨D1, hD1⟩ : ∃ D1, d.done d.w.toNat d.h.toNat = D1 := ⟨_, rfl⟩
  rw [hD1] at hok1 hfu HDN ⊢
  have HOK1 := Lib.hid (And.intro hok1 hfu)
  clear hb hC hok hf hcmd hok1 hfu hD1
  clear hnd h59
  go_enter Try.func31, Try.ntmps31
  go_wp2_with fail
  refine HDN.out.mono ?_
  rintro e w1 ⟨rfl, hT1⟩
  have HT1 := Lib.hid hT1
  clear hT1
  obtain ⟨G1, ⟨pv1, nv1, hb1, hp1, hn1, o1, o2, o3, hG1⟩, hs1, hk1⟩ := HT1.out
  obtain ⟨R, hR⟩ := nat_of HOK1.out.1.rep.1
  have hRb : R ≤ 65535 := by have := HOK1.out.1.rep.2; omega
  have j0 : w1.cell? ⟨a, 783, none⟩ = some (.int .i64 (R : Int)) := by rw [← hR]; exact hb1.frep.1
  have j0' := hb1.frep.2
  obtain ⟨n, hn⟩ : ∃ n, max R 1 = n := ⟨_, rfl⟩
  have m1 : (if (R : Int) < 1 then 1 else (R : Int)) = (n : Int) := by rw [← hn]; split <;> omega
  have m2 : (if R = 0 then 1 else (R : Int)) = (n : Int) := by rw [← hn]; split <;> omega
  have m3 : (if (R : Int) ≤ 0 then 1 else (R : Int)) = (n : Int) := by rw [← hn]; split <;> omega
  obtain ⟨V1, hV1⟩ : ∃ V, w1.setCell ⟨a, 783, none⟩ (.int .i64 0) = V := ⟨_, rfl⟩
  have hb2 : DBlk V1 a { D1 with rep := 0 } pv1 nv1 := by rw [← hV1]; exact hb1.srep 0
  have HT2 := Lib.hid (show Turn G W V1 a { D1 with rep := 0 } by rw [← hV1]; exact HT1.out.set (fun _ _ h => h.srep 0) rfl rfl)
  have HB2 := Lib.hid hb2
  have HRN := Lib.hid (And.intro hR hn)
  have jf : w1.cell? ⟨a, 778, none⟩ = some (.bool false) := by rw [← HOK1.out.2]; exact hb1.ffull.1
  clear hb1 hp1 hn1 o1 o2 o3 hG1 hs1 hk1 hR hn hb2
  obtain ⟨G2, ⟨pv2, nv2, hb3, hp3, hn3, o1, o2, o3, hG2⟩, hs2, hk2⟩ := HT2.out
  obtain ⟨na, ncap, hnv, -, hncap, hncm, hnil, -⟩ := hn3.shape
  obtain ⟨nl, hnl⟩ : ∃ nl, ({ D1 with rep := 0 } : Dec).n.length = nl := ⟨_, rfl⟩
  rw [hnl] at hnv hncap
  subst hnv
  have hz := hn3.zero
  have hob : (Value.slice na 0 ncap).ownBlock = (Value.slice na nl ncap).ownBlock := by cases na <;> rfl
  obtain ⟨WR, hWR⟩ : ∃ WR, V1.drew = WR := ⟨_, rfl⟩
  have hkR : Kept (fun _ => False) V1 WR := by rw [← hWR]; exact (Kept.refl _ _).drew
  have hbR : DBlk WR a { D1 with rep := 0 } pv2 (.slice na nl ncap) := hb3.kept hkR id
  obtain ⟨u0, u0'⟩ := hbR.fcmd
  obtain ⟨u1, u1'⟩ := hbR.fn
  have hb4 := hbR.scmd (35 : Int)
  obtain ⟨U1, hU1⟩ : ∃ U, WR.setCell ⟨a, 780, none⟩ (.int .u8 35) = U := ⟨_, rfl⟩
  have hb4' : DBlk U1 a { D1 with rep := 0, cmd := (35 : Int) } pv2 (.slice na nl ncap) := by rw [← hU1]; exact hb4
  obtain ⟨v1, v1'⟩ := hb4'.fn
  obtain ⟨U2, hU2⟩ : ∃ U, U1.setCell ⟨a, 781, none⟩ (.slice na 0 ncap) = U := ⟨_, rfl⟩
  have hb5 : DBlk U2 a { D1 with rep := 0, cmd := (35 : Int), n := [] } pv2 (.slice na 0 ncap) := by rw [← hU2]; exact hb4'.sn (.slice na 0 ncap) []
  obtain ⟨v2, v2'⟩ := hb5.fv
  have kA : Kept (fun i => i = a) WR ((U2).setCell ⟨a, 782, none⟩ (.int .i64 0)) := by
    rw [← hU2, ← hU1]
    exact (((Kept.refl (fun i => i = a) WR).setCell (p := ⟨a, 780, none⟩) (.inl rfl) _).setCell (p := ⟨a, 781, none⟩) (.inl rfl) _).setCell (p := ⟨a, 782, none⟩) (.inl rfl) _
  have hT5 : Turn G W ((U2).setCell ⟨a, 782, none⟩ (.int .i64 0)) a { D1 with rep := 0, cmd := (35 : Int), n := [], v := 0 } := by
    refine Turn.then hs2 (hk2.then (hkR.mono fun _ _ h => h.elim)) ⟨G2, ⟨pv2, .slice na 0 ncap, hb5.sv 0, (hp3.kept hkR (fun _ _ => id)).kept kA (fun b hb (hS : b = a) => o1 (by rw [hb, hS])), (hz.kept hkR (fun _ _ => id)).kept kA (fun b hb (hS : b = a) => o2 (by rw [← hob, hb, hS])), o1, (by rw [hob]; exact o2), (by rw [hob]; exact o3), (by rw [hob]; exact hG2)⟩, fun i h => .inl h, kA.mono fun i _ (hi : i = a) => by rw [hi]; exact (hG2 a).2 (.inl rfl)⟩
  have HT5 := Lib.hid hT5
  have HRES := Lib.hid (show D1.plainSign 35 = { D1 with rep := 0, cmd := (35 : Int), n := [], v := 0 } from by
    unfold Dec.plainSign
    rw [if_neg (by omega), if_pos (by omega)]; rfl)
  clear hb3 hp3 hn3 o1 o2 o3 hG2 hob hs2 hk2 hncm hnil hnl hz hkR hbR hb4 hb4' hb5 kA hT5
  go_wp2
  go_region_law (fail)
  all_goals
    go_wp2
    go_end0
    refine ⟨rfl, ?_⟩
    rw [HRES.out]
    exact HT5.out
theorem sign_any (G : Nat → Prop) (d : Dec) (W : World) (a c M : Nat) (hd : DOwn G W a d) (hok : DecOk M d) (hf : d.full = false) (hc : 33 ≤ c ∧ c ≤ 126) :
    Calls Try.prog 31 #[.pointer (some ⟨a, 0, none⟩), .int .u8 c] W fun e w' => e = .returned (.tuple #[]) ∧ Turn G W w' a (d.sig c) := by
  by_cases hcmd : d.cmd = 0
  · have e : d.sig c = d.plainSign c := by unfold Dec.sig; rw [if_pos hcmd]
    rw [e]
    by_cases h63 : 63 ≤ c
    · exact signA_six G d W a c M hd hok hf hc hcmd h63
    by_cases h1 : c = 33
    · exact signA_cmd33 G d W a c M hd hok hf hc hcmd h1
    by_cases h2 : c = 35
    · exact signA_cmd35 G d W a c M hd hok hf hc hcmd h2
    by_cases h3 : c = 34
    · exact signA_cmd34 G d W a c M hd hok hf hc hcmd h3
    by_cases h4 : c = 45
    · exact signA_minus G d W a c M hd hok hf hc hcmd h4
    by_cases h5 : c = 36
    · exact signA_doll G d W a c M hd hok hf hc hcmd h5
    exact signA_other G d W a c M hd hok hf hc hcmd ⟨h63, h1, h2, h3, h4, h5⟩
  · by_cases h48 : 48 ≤ c ∧ c ≤ 57
    · have e : d.sig c = { d with v := min (10 * d.v + ((c : Int) - 48)) 65535 } := by unfold Dec.sig; rw [if_neg hcmd, if_pos h48]
      rw [e]
      exact sign_digit G d W a c M hd hok hf hc hcmd h48
    by_cases h59 : c = 59
    · have e : d.sig c = d.push := by unfold Dec.sig; rw [if_neg hcmd, if_neg h48, if_pos h59]
      rw [e]
      exact sign_semi G d W a c M hd hok hf hc hcmd h59
    have hnd : c < 48 ∨ 57 < c := by omega
    cases hfu : (d.done d.w.toNat d.h.toNat).full with
    | true =>
      have e : d.sig c = d.done d.w.toNat d.h.toNat := by unfold Dec.sig; rw [if_neg hcmd, if_neg h48, if_neg h59, if_pos hfu]
      rw [e]
      exact signB_full G d W a c M hd hok hf hc hcmd hnd h59 hfu
    | false =>
      have e : d.sig c = (d.done d.w.toNat d.h.toNat).plainSign c := by unfold Dec.sig; rw [if_neg hcmd, if_neg h48, if_neg h59, if_neg (by rw [hfu]; simp)]
      rw [e]
      by_cases h63 : 63 ≤ c
      · exact signB_six G d W a c M hd hok hf hc hcmd hnd h59 hfu h63
      by_cases h1 : c = 33
      · exact signB_cmd33 G d W a c M hd hok hf hc hcmd hnd h59 hfu h1
      by_cases h2 : c = 35
      · exact signB_cmd35 G d W a c M hd hok hf hc hcmd hnd h59 hfu h2
      by_cases h3 : c = 34
      · exact signB_cmd34 G d W a c M hd hok hf hc hcmd hnd h59 hfu h3
      by_cases h4 : c = 45
      · exact signB_minus G d W a c M hd hok hf hc hcmd hnd h59 hfu h4
      by_cases h5 : c = 36
      · exact signB_doll G d W a c M hd hok hf hc hcmd hnd h59 hfu h5
      exact signB_other G d W a c M hd hok hf hc hcmd hnd h59 hfu ⟨h63, h1, h2, h3, h4, h5⟩
end Go.Proofs.Ytomcjdonacckfaa
