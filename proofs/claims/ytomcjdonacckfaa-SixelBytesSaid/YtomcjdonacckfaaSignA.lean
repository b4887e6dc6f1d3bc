/- One sign: sign. -/
import Derived.Test.YtomcjdonacckfaaSignP
namespace Go.Proofs.Ytomcjdonacckfaa
open Go.RowKit
set_option linter.unusedVariables false
set_option linter.unusedSimpArgs false
theorem nat_of {x : Int} (h : 0 ≤ x) : ∃ n : Nat, x = (n : Int) := ⟨x.toNat, by omega⟩
/-- The numbers are none, where they lay. -/
theorem Own.zero {k : IntKind} {e : TypeId} {w : World} {a : Option Addr} {n cap : Nat} {xs : List Int} (h : Own k e w (.slice a n cap) xs) : Own k e w (.slice a 0 cap) [] := by
  obtain ⟨h1, h2⟩ := h
  refine ⟨by simp, ?_⟩
  rcases h2 with ⟨h3, h0⟩ | ⟨g, cap', cur, h3, hb, hg, hn, hc, hcs, ht⟩
  · cases h3; exact .inl ⟨rfl, rfl⟩
  · cases h3; exact .inr ⟨g, cap, cur, rfl, hb, hg, Nat.zero_le _, hc, hcs, by simp⟩
set_option maxRecDepth 100000 in
set_option maxHeartbeats 16000000 in
theorem sign_digit (G : Nat → Prop) (d : Dec) (W : World) (a c M : Nat) (hd : DOwn G W a d) (hok : DecOk M d) (hf : d.full = false) (hc : 33 ≤ c ∧ c ≤ 126) (hcmd : d.cmd ≠ 0) (h48 : 48 ≤ c ∧ c ≤ 57) :
    Calls Try.prog 31 #[.pointer (some ⟨a, 0, none⟩), .int .u8 c] W fun e w' => e = .returned (.tuple #[]) ∧ Turn G W w' a ({ d with v := min (10 * d.v + ((c : Int) - 48)) 65535 }) := by
  have HD := Lib.hid hd
  obtain ⟨pv, nv, hb, -⟩ := hd
  obtain ⟨k0, -⟩ := hb.fcmd
  obtain ⟨k1, k1'⟩ := hb.fv
  obtain ⟨C, hC⟩ : ∃ C, d.cmd = C := ⟨_, rfl⟩
  obtain ⟨V, hV⟩ := nat_of hok.num.v.1
  have hVb := hok.num.v.2
  rw [hC] at k0 hcmd
  rw [hV] at k1 hVb ⊢
  have e0 : (C != 0) = true := by simp; exact hcmd
  have g1 : decide (48 ≤ c) = true := decide_eq_true h48.1
  have g2 : decide (c ≤ 57) = true := decide_eq_true h48.2
  obtain ⟨t, ht⟩ : ∃ t : Nat, c - 48 = t := ⟨_, rfl⟩
  have q1 : IntKind.u8.wrap ((c : Int) - 48) = (t : Int) := by rw [IntKind.wrap_u8]; omega
  have q2 : IntKind.i64.wrap (t : Int) = (t : Int) := IntWalk.i64_in _ (by omega)
  obtain ⟨S, hS⟩ : ∃ S : Nat, 10 * V + t = S := ⟨_, rfl⟩
  obtain ⟨T, hT⟩ : ∃ T : Nat, 10 * V = T := ⟨_, rfl⟩
  have q3 : IntKind.i64.wrap (10 * (V : Int)) = (T : Int) := by rw [IntWalk.i64_in _ (by omega)]; omega
  have q4 : IntKind.i64.wrap ((T : Int) + (t : Int)) = (S : Int) := by rw [IntWalk.i64_in _ (by omega)]; omega
  obtain ⟨r, hr⟩ : ∃ r, min (10 * (V : Int) + ((c : Int) - 48)) 65535 = r := ⟨_, rfl⟩
  rw [hr]
  have hrS : r = if 65535 < S then 65535 else (S : Int) := by rw [← hr]; split <;> omega
  clear hb hC hV hok hcmd hr hf ht hS hT hVb
  rcases Nat.lt_trichotomy S 65535 with hS | hS | hS
  · have hS2 : ¬ 65535 < S := by omega
    rw [if_neg hS2] at hrS
    subst hrS
    have HH := Lib.hid hS
    go_enter Try.func31, Try.ntmps31
    go_wp2
    exact bodyPost_ret (results_none rfl _ _ _) rfl ⟨rfl, (Turn.refl HD.out).set (fun _ _ h => h.sv (S : Int)) rfl rfl⟩
  · have hS1 : ¬ S < 65535 := by omega
    have hS2 : ¬ 65535 < S := by omega
    rw [if_neg hS2] at hrS
    subst hrS
    have HS := Lib.hid hS
    clear hS
    go_enter Try.func31, Try.ntmps31
    go_wp2
    first
      | exact bodyPost_ret (results_none rfl _ _ _) rfl ⟨rfl, (Turn.refl HD.out).set (fun _ _ h => h.sv (S : Int)) rfl rfl⟩
      | (rw [show (S : Int) = 65535 by have := HS.out; omega]; exact bodyPost_ret (results_none rfl _ _ _) rfl ⟨rfl, (Turn.refl HD.out).set (fun _ _ h => h.sv 65535) rfl rfl⟩)
      | exact bodyPost_ret (results_none rfl _ _ _) rfl ⟨rfl, by rw [show (S : Int) = 65535 by have := HS.out; omega]; exact (Turn.refl HD.out).set (fun _ _ h => h.sv 65535) rfl rfl⟩
  · have hS2 : ¬ S < 65535 := by omega
    rw [if_pos hS] at hrS
    subst hrS
    go_enter Try.func31, Try.ntmps31
    go_wp2
    exact bodyPost_ret (results_none rfl _ _ _) rfl ⟨rfl, (Turn.refl HD.out).set (fun _ _ h => h.sv 65535) rfl rfl⟩
set_option maxRecDepth 100000 in
set_option maxHeartbeats 16000000 in
theorem sign_semi (G : Nat → Prop) (d : Dec) (W : World) (a c M : Nat) (hd : DOwn G W a d) (hok : DecOk M d) (hf : d.full = false) (hc : 33 ≤ c ∧ c ≤ 126) (hcmd : d.cmd ≠ 0) (h59 : c = 59) :
    Calls Try.prog 31 #[.pointer (some ⟨a, 0, none⟩), .int .u8 c] W fun e w' => e = .returned (.tuple #[]) ∧ Turn G W w' a (d.push) := by
  subst h59
  have HP := Lib.hid (push_any G d W a hd hok.num.len)
  obtain ⟨pv, nv, hb, -⟩ := hd
  obtain ⟨k0, -⟩ := hb.fcmd
  obtain ⟨C, hC⟩ : ∃ C, d.cmd = C := ⟨_, rfl⟩
  rw [hC] at k0 hcmd
  have e0 : (C != 0) = true := by simp; exact hcmd
  clear hb hC hok hcmd hf
  go_enter Try.func31, Try.ntmps31
  go_wp2_with fail
  refine HP.out.mono ?_
  rintro e w1 ⟨rfl, hT⟩
  have HT := Lib.hid hT
  clear hT
  go_wp2
  exact bodyPost_ret (results_none rfl _ _ _) rfl ⟨rfl, HT.out⟩
set_option maxRecDepth 100000 in
set_option maxHeartbeats 16000000 in
theorem signA_six (G : Nat → Prop) (d : Dec) (W : World) (a c M : Nat) (hd : DOwn G W a d) (hok : DecOk M d) (hf : d.full = false) (hc : 33 ≤ c ∧ c ≤ 126) (hcmd : d.cmd = 0) (h63 : 63 ≤ c) :
    Calls Try.prog 31 #[.pointer (some ⟨a, 0, none⟩), .int .u8 c] W fun e w' => e = .returned (.tuple #[]) ∧ Turn G W w' a (d.plainSign c) := by
  have HT1 := Lib.hid (Turn.refl (w := W) hd)
  have HOK1 := Lib.hid (And.intro hok hf)
  obtain ⟨pv, nv, hb, -⟩ := hd
  have k0 : W.cell? ⟨a, 780, none⟩ = some (.int .u8 0) := by rw [← hcmd]; exact hb.fcmd.1
  clear hb hok hf hcmd
  obtain ⟨G1, ⟨pv1, nv1, hb1, hp1, hn1, o1, o2, o3, hG1⟩, hs1, hk1⟩ := HT1.out
  obtain ⟨R, hR⟩ := nat_of HOK1.out.1.rep.1
  have hRb : R ≤ 65535 := by have := HOK1.out.1.rep.2; omega
  have j0 : W.cell? ⟨a, 783, none⟩ = some (.int .i64 (R : Int)) := by rw [← hR]; exact hb1.frep.1
  have j0' := hb1.frep.2
  obtain ⟨n, hn⟩ : ∃ n, max R 1 = n := ⟨_, rfl⟩
  have m1 : (if (R : Int) < 1 then 1 else (R : Int)) = (n : Int) := by rw [← hn]; split <;> omega
  have m2 : (if R = 0 then 1 else (R : Int)) = (n : Int) := by rw [← hn]; split <;> omega
  have m3 : (if (R : Int) ≤ 0 then 1 else (R : Int)) = (n : Int) := by rw [← hn]; split <;> omega
  obtain ⟨V1, hV1⟩ : ∃ V, W.setCell ⟨a, 783, none⟩ (.int .i64 0) = V := ⟨_, rfl⟩
  have hb2 : DBlk V1 a { d with rep := 0 } pv1 nv1 := by rw [← hV1]; exact hb1.srep 0
  have HT2 := Lib.hid (show Turn G W V1 a { d with rep := 0 } by rw [← hV1]; exact HT1.out.set (fun _ _ h => h.srep 0) rfl rfl)
  have HB2 := Lib.hid hb2
  have HRN := Lib.hid (And.intro hR hn)
  clear hb1 hp1 hn1 o1 o2 o3 hG1 hs1 hk1 hR hn hb2
  have g63 : decide (63 ≤ c) = true := decide_eq_true h63
  obtain ⟨t, ht⟩ : ∃ t : Nat, c - 63 = t := ⟨_, rfl⟩
  have p1 : IntKind.u8.wrap ((c : Int) - 63) = (t : Int) := by rw [IntKind.wrap_u8]; omega
  have p2 : IntKind.i64.wrap (t : Int) = (t : Int) := IntWalk.i64_in _ (by omega)
  obtain ⟨G2, hDO2, hs2, hk2⟩ := HT2.out
  have hok1 := HOK1.out.1
  have HSX := Lib.hid (sixel_any G2 { d with rep := 0 } V1 a t n d.x.toNat d.y.toNat d.w.toNat d.h.toNat M d.now.toNat hDO2 ⟨hok1.pic.w, hok1.pic.h, hok1.pic.most, hok1.pic.M, hok1.pic.wb, hok1.pic.hb, hok1.pic.z, hok1.pic.p⟩ HOK1.out.2 (by omega) (by have := HRN.out.2; omega) (show d.x = _ by have := hok1.x.1; omega) (show d.y = _ by have := hok1.y.1; omega) (by have := hok1.x.2; omega) (by have := hok1.y.2; omega) (show d.now = _ by have := hok1.now.1; omega) (by have := hok1.now; omega))
  have HRES := Lib.hid (show d.plainSign c = ({ d with rep := 0 } : Dec).sixel t n d.x.toNat d.y.toNat d.w.toNat d.h.toNat d.now.toNat from by
    unfold Dec.plainSign
    rw [if_pos h63, ht, HRN.out.1, show (max (R : Int) 1).toNat = n by have := HRN.out.2; omega])
  have HH2 := Lib.hid (And.intro hs2 hk2)
  clear hDO2 hs2 hk2 hok1 ht
  go_enter Try.func31, Try.ntmps31
  go_wp2_with fail
  refine HSX.out.mono ?_
  rintro e w9 ⟨rfl, hT9⟩
  have HT9 := Lib.hid hT9
  clear hT9
  go_wp2
  refine bodyPost_ret (results_none rfl _ _ _) rfl ⟨rfl, ?_⟩
  rw [HRES.out]
  exact Turn.then HH2.out.1 HH2.out.2 HT9.out
set_option maxRecDepth 100000 in
set_option maxHeartbeats 16000000 in
theorem signA_minus (G : Nat → Prop) (d : Dec) (W : World) (a c M : Nat) (hd : DOwn G W a d) (hok : DecOk M d) (hf : d.full = false) (hc : 33 ≤ c ∧ c ≤ 126) (hcmd : d.cmd = 0) (h45 : c = 45) :
    Calls Try.prog 31 #[.pointer (some ⟨a, 0, none⟩), .int .u8 c] W fun e w' => e = .returned (.tuple #[]) ∧ Turn G W w' a (d.plainSign c) := by
  have HT1 := Lib.hid (Turn.refl (w := W) hd)
  have HOK1 := Lib.hid (And.intro hok hf)
  obtain ⟨pv, nv, hb, -⟩ := hd
  have k0 : W.cell? ⟨a, 780, none⟩ = some (.int .u8 0) := by rw [← hcmd]; exact hb.fcmd.1
  clear hb hok hf hcmd
  obtain ⟨G1, ⟨pv1, nv1, hb1, hp1, hn1, o1, o2, o3, hG1⟩, hs1, hk1⟩ := HT1.out
  obtain ⟨R, hR⟩ := nat_of HOK1.out.1.rep.1
  have hRb : R ≤ 65535 := by have := HOK1.out.1.rep.2; omega
  have j0 : W.cell? ⟨a, 783, none⟩ = some (.int .i64 (R : Int)) := by rw [← hR]; exact hb1.frep.1
  have j0' := hb1.frep.2
  obtain ⟨n, hn⟩ : ∃ n, max R 1 = n := ⟨_, rfl⟩
  have m1 : (if (R : Int) < 1 then 1 else (R : Int)) = (n : Int) := by rw [← hn]; split <;> omega
  have m2 : (if R = 0 then 1 else (R : Int)) = (n : Int) := by rw [← hn]; split <;> omega
  have m3 : (if (R : Int) ≤ 0 then 1 else (R : Int)) = (n : Int) := by rw [← hn]; split <;> omega
  obtain ⟨V1, hV1⟩ : ∃ V, W.setCell ⟨a, 783, none⟩ (.int .i64 0) = V := ⟨_, rfl⟩
  have hb2 : DBlk V1 a { d with rep := 0 } pv1 nv1 := by rw [← hV1]; exact hb1.srep 0
  have HT2 := Lib.hid (show Turn G W V1 a { d with rep := 0 } by rw [← hV1]; exact HT1.out.set (fun _ _ h => h.srep 0) rfl rfl)
  have HB2 := Lib.hid hb2
  have HRN := Lib.hid (And.intro hR hn)
  clear hb1 hp1 hn1 o1 o2 o3 hG1 hs1 hk1 hR hn hb2
  subst h45
  obtain ⟨Y, hY⟩ := nat_of HOK1.out.1.y.1
  have hYb : Y ≤ 1048576 := by have := HOK1.out.1.y.2; omega
  have y0 : V1.cell? ⟨a, 772, none⟩ = some (.int .i64 (Y : Int)) := by rw [← hY]; exact HB2.out.fy.1
  have y0' := HB2.out.fy.2
  have p1 : IntKind.i64.wrap ((Y : Int) + 6) = (Y : Int) + 6 := IntWalk.i64_in _ (by omega)
  obtain ⟨r, hr⟩ : ∃ r, min ((Y : Int) + 6) 1048576 = r := ⟨_, rfl⟩
  have p2 : (if (Y : Int) + 6 < 1048576 then (Y : Int) + 6 else 1048576) = r := by
    rw [← hr]
    by_cases h9 : (Y : Int) + 6 < 1048576
    · rw [if_pos h9, Int.min_eq_left (Int.le_of_lt h9)]
    · rw [if_neg h9, Int.min_eq_right (Int.not_lt.1 h9)]
  have p3 : (if 1048576 < (Y : Int) + 6 then 1048576 else (Y : Int) + 6) = r := by
    rw [← hr]
    by_cases h9 : 1048576 < (Y : Int) + 6
    · rw [if_pos h9, Int.min_eq_right (Int.le_of_lt h9)]
    · rw [if_neg h9, Int.min_eq_left (Int.not_lt.1 h9)]
  obtain ⟨V2, hV2⟩ : ∃ V, V1.setCell ⟨a, 772, none⟩ (.int .i64 r) = V := ⟨_, rfl⟩
  have hb3 := HB2.out.sy r
  rw [hV2] at hb3
  obtain ⟨z0, z0'⟩ := hb3.fdown
  obtain ⟨V3, hV3⟩ : ∃ V, V2.setCell ⟨a, 777, none⟩ (.bool true) = V := ⟨_, rfl⟩
  have hb4 := hb3.sdown true
  rw [hV3] at hb4
  obtain ⟨x0, x0'⟩ := hb4.fx
  have HT3 := Lib.hid (show Turn G W V3 a _ by rw [← hV3, ← hV2]; exact (HT2.out.set (fun _ _ h => h.sy r) rfl rfl).set (fun _ _ h => h.sdown true) rfl rfl)
  have HRES := Lib.hid (show d.plainSign 45 = { d with rep := 0, y := r, down := true, x := 0 } from by
    unfold Dec.plainSign
    rw [if_neg (by omega), if_neg (by omega), if_pos rfl, hY, hr])
  clear hb3 hb4 hr hY
  go_enter Try.func31, Try.ntmps31
  go_wp2
  go_end0
  refine ⟨rfl, ?_⟩
  rw [HRES.out]
  exact HT3.out.set (fun _ _ h => h.sx 0) rfl rfl
set_option maxRecDepth 100000 in
set_option maxHeartbeats 16000000 in
theorem signA_doll (G : Nat → Prop) (d : Dec) (W : World) (a c M : Nat) (hd : DOwn G W a d) (hok : DecOk M d) (hf : d.full = false) (hc : 33 ≤ c ∧ c ≤ 126) (hcmd : d.cmd = 0) (h36 : c = 36) :
    Calls Try.prog 31 #[.pointer (some ⟨a, 0, none⟩), .int .u8 c] W fun e w' => e = .returned (.tuple #[]) ∧ Turn G W w' a (d.plainSign c) := by
  have HT1 := Lib.hid (Turn.refl (w := W) hd)
  have HOK1 := Lib.hid (And.intro hok hf)
  obtain ⟨pv, nv, hb, -⟩ := hd
  have k0 : W.cell? ⟨a, 780, none⟩ = some (.int .u8 0) := by rw [← hcmd]; exact hb.fcmd.1
  clear hb hok hf hcmd
  obtain ⟨G1, ⟨pv1, nv1, hb1, hp1, hn1, o1, o2, o3, hG1⟩, hs1, hk1⟩ := HT1.out
  obtain ⟨R, hR⟩ := nat_of HOK1.out.1.rep.1
  have hRb : R ≤ 65535 := by have := HOK1.out.1.rep.2; omega
  have j0 : W.cell? ⟨a, 783, none⟩ = some (.int .i64 (R : Int)) := by rw [← hR]; exact hb1.frep.1
  have j0' := hb1.frep.2
  obtain ⟨n, hn⟩ : ∃ n, max R 1 = n := ⟨_, rfl⟩
  have m1 : (if (R : Int) < 1 then 1 else (R : Int)) = (n : Int) := by rw [← hn]; split <;> omega
  have m2 : (if R = 0 then 1 else (R : Int)) = (n : Int) := by rw [← hn]; split <;> omega
  have m3 : (if (R : Int) ≤ 0 then 1 else (R : Int)) = (n : Int) := by rw [← hn]; split <;> omega
  obtain ⟨V1, hV1⟩ : ∃ V, W.setCell ⟨a, 783, none⟩ (.int .i64 0) = V := ⟨_, rfl⟩
  have hb2 : DBlk V1 a { d with rep := 0 } pv1 nv1 := by rw [← hV1]; exact hb1.srep 0
  have HT2 := Lib.hid (show Turn G W V1 a { d with rep := 0 } by rw [← hV1]; exact HT1.out.set (fun _ _ h => h.srep 0) rfl rfl)
  have HB2 := Lib.hid hb2
  have HRN := Lib.hid (And.intro hR hn)
  clear hb1 hp1 hn1 o1 o2 o3 hG1 hs1 hk1 hR hn hb2
  subst h36
  obtain ⟨x0, x0'⟩ := HB2.out.fx
  have HRES := Lib.hid (show d.plainSign 36 = { d with rep := 0, x := 0 } from by
    unfold Dec.plainSign
    rw [if_neg (by omega), if_neg (by omega), if_neg (by omega), if_pos rfl])
  go_enter Try.func31, Try.ntmps31
  go_wp2
  go_end0
  refine ⟨rfl, ?_⟩
  rw [HRES.out]
  exact HT2.out.set (fun _ _ h => h.sx 0) rfl rfl
set_option maxRecDepth 100000 in
set_option maxHeartbeats 16000000 in
theorem signA_other (G : Nat → Prop) (d : Dec) (W : World) (a c M : Nat) (hd : DOwn G W a d) (hok : DecOk M d) (hf : d.full = false) (hc : 33 ≤ c ∧ c ≤ 126) (hcmd : d.cmd = 0) (hoth : ¬ 63 ≤ c ∧ c ≠ 33 ∧ c ≠ 35 ∧ c ≠ 34 ∧ c ≠ 45 ∧ c ≠ 36) :
    Calls Try.prog 31 #[.pointer (some ⟨a, 0, none⟩), .int .u8 c] W fun e w' => e = .returned (.tuple #[]) ∧ Turn G W w' a (d.plainSign c) := by
  have HT1 := Lib.hid (Turn.refl (w := W) hd)
  have HOK1 := Lib.hid (And.intro hok hf)
  obtain ⟨pv, nv, hb, -⟩ := hd
  have k0 : W.cell? ⟨a, 780, none⟩ = some (.int .u8 0) := by rw [← hcmd]; exact hb.fcmd.1
  clear hb hok hf hcmd
  obtain ⟨G1, ⟨pv1, nv1, hb1, hp1, hn1, o1, o2, o3, hG1⟩, hs1, hk1⟩ := HT1.out
  obtain ⟨R, hR⟩ := nat_of HOK1.out.1.rep.1
  have hRb : R ≤ 65535 := by have := HOK1.out.1.rep.2; omega
  have j0 : W.cell? ⟨a, 783, none⟩ = some (.int .i64 (R : Int)) := by rw [← hR]; exact hb1.frep.1
  have j0' := hb1.frep.2
  obtain ⟨n, hn⟩ : ∃ n, max R 1 = n := ⟨_, rfl⟩
  have m1 : (if (R : Int) < 1 then 1 else (R : Int)) = (n : Int) := by rw [← hn]; split <;> omega
  have m2 : (if R = 0 then 1 else (R : Int)) = (n : Int) := by rw [← hn]; split <;> omega
  have m3 : (if (R : Int) ≤ 0 then 1 else (R : Int)) = (n : Int) := by rw [← hn]; split <;> omega
  obtain ⟨V1, hV1⟩ : ∃ V, W.setCell ⟨a, 783, none⟩ (.int .i64 0) = V := ⟨_, rfl⟩
  have hb2 : DBlk V1 a { d with rep := 0 } pv1 nv1 := by rw [← hV1]; exact hb1.srep 0
  have HT2 := Lib.hid (show Turn G W V1 a { d with rep := 0 } by rw [← hV1]; exact HT1.out.set (fun _ _ h => h.srep 0) rfl rfl)
  have HB2 := Lib.hid hb2
  have HRN := Lib.hid (And.intro hR hn)
  clear hb1 hp1 hn1 o1 o2 o3 hG1 hs1 hk1 hR hn hb2
  have g63 : decide (63 ≤ c) = false := decide_eq_false hoth.1
  have e1 : ((c : Int) == 33) = false := by simp; omega
  have e2 : ((c : Int) == 35) = false := by simp; omega
  have e3 : ((c : Int) == 34) = false := by simp; omega
  have e4 : ((c : Int) == 45) = false := by simp; omega
  have e5 : ((c : Int) == 36) = false := by simp; omega
  have HRES := Lib.hid (show d.plainSign c = { d with rep := 0 } from by
    unfold Dec.plainSign
    rw [if_neg hoth.1, if_neg (by omega), if_neg (by omega), if_neg (by omega)])
  go_enter Try.func31, Try.ntmps31
  go_wp2
  go_end0
  refine ⟨rfl, ?_⟩
  rw [HRES.out]
  exact HT2.out
set_option maxRecDepth 100000 in
set_option maxHeartbeats 16000000 in
theorem signA_cmd33 (G : Nat → Prop) (d : Dec) (W : World) (a c M : Nat) (hd : DOwn G W a d) (hok : DecOk M d) (hf : d.full = false) (hc : 33 ≤ c ∧ c ≤ 126) (hcmd : d.cmd = 0) (hk : c = 33) :
    Calls Try.prog 31 #[.pointer (some ⟨a, 0, none⟩), .int .u8 c] W fun e w' => e = .returned (.tuple #[]) ∧ Turn G W w' a (d.plainSign c) := by
  have HT1 := Lib.hid (Turn.refl (w := W) hd)
  have HOK1 := Lib.hid (And.intro hok hf)
  obtain ⟨pv, nv, hb, -⟩ := hd
  have k0 : W.cell? ⟨a, 780, none⟩ = some (.int .u8 0) := by rw [← hcmd]; exact hb.fcmd.1
  clear hb hok hf hcmd
  obtain ⟨G1, ⟨pv1, nv1, hb1, hp1, hn1, o1, o2, o3, hG1⟩, hs1, hk1⟩ := HT1.out
  obtain ⟨R, hR⟩ := nat_of HOK1.out.1.rep.1
  have hRb : R ≤ 65535 := by have := HOK1.out.1.rep.2; omega
  have j0 : W.cell? ⟨a, 783, none⟩ = some (.int .i64 (R : Int)) := by rw [← hR]; exact hb1.frep.1
  have j0' := hb1.frep.2
  obtain ⟨n, hn⟩ : ∃ n, max R 1 = n := ⟨_, rfl⟩
  have m1 : (if (R : Int) < 1 then 1 else (R : Int)) = (n : Int) := by rw [← hn]; split <;> omega
  have m2 : (if R = 0 then 1 else (R : Int)) = (n : Int) := by rw [← hn]; split <;> omega
  have m3 : (if (R : Int) ≤ 0 then 1 else (R : Int)) = (n : Int) := by rw [← hn]; split <;> omega
  obtain ⟨V1, hV1⟩ : ∃ V, W.setCell ⟨a, 783, none⟩ (.int .i64 0) = V := ⟨_, rfl⟩
  have hb2 : DBlk V1 a { d with rep := 0 } pv1 nv1 := by rw [← hV1]; exact hb1.srep 0
  have HT2 := Lib.hid (show Turn G W V1 a { d with rep := 0 } by rw [← hV1]; exact HT1.out.set (fun _ _ h => h.srep 0) rfl rfl)
  have HB2 := Lib.hid hb2
  have HRN := Lib.hid (And.intro hR hn)
  clear hb1 hp1 hn1 o1 o2 o3 hG1 hs1 hk1 hR hn hb2
  subst hk
  obtain ⟨G2, ⟨pv2, nv2, hb3, hp3, hn3, o1, o2, o3, hG2⟩, hs2, hk2⟩ := HT2.out
  obtain ⟨na, ncap, hnv, -, hncap, hncm, hnil, -⟩ := hn3.shape
  obtain ⟨nl, hnl⟩ : ∃ nl, ({ d with rep := 0 } : Dec).n.length = nl := ⟨_, rfl⟩
  rw [hnl] at hnv hncap
  subst hnv
  have hz := hn3.zero
  have hob : (Value.slice na 0 ncap).ownBlock = (Value.slice na nl ncap).ownBlock := by cases na <;> rfl
  obtain ⟨WR, hWR⟩ : ∃ WR, V1.drew = WR := ⟨_, rfl⟩
  have hkR : Kept (fun _ => False) V1 WR := by rw [← hWR]; exact (Kept.refl _ _).drew
  have hbR : DBlk WR a { d with rep := 0 } pv2 (.slice na nl ncap) := hb3.kept hkR id
  obtain ⟨u0, u0'⟩ := hbR.fcmd
  obtain ⟨u1, u1'⟩ := hbR.fn
  have hb4 := hbR.scmd (33 : Int)
  obtain ⟨U1, hU1⟩ : ∃ U, WR.setCell ⟨a, 780, none⟩ (.int .u8 33) = U := ⟨_, rfl⟩
  have hb4' : DBlk U1 a { d with rep := 0, cmd := (33 : Int) } pv2 (.slice na nl ncap) := by rw [← hU1]; exact hb4
  obtain ⟨v1, v1'⟩ := hb4'.fn
  obtain ⟨U2, hU2⟩ : ∃ U, U1.setCell ⟨a, 781, none⟩ (.slice na 0 ncap) = U := ⟨_, rfl⟩
  have hb5 : DBlk U2 a { d with rep := 0, cmd := (33 : Int), n := [] } pv2 (.slice na 0 ncap) := by rw [← hU2]; exact hb4'.sn (.slice na 0 ncap) []
  obtain ⟨v2, v2'⟩ := hb5.fv
  have kA : Kept (fun i => i = a) WR ((U2).setCell ⟨a, 782, none⟩ (.int .i64 0)) := by
    rw [← hU2, ← hU1]
    exact (((Kept.refl (fun i => i = a) WR).setCell (p := ⟨a, 780, none⟩) (.inl rfl) _).setCell (p := ⟨a, 781, none⟩) (.inl rfl) _).setCell (p := ⟨a, 782, none⟩) (.inl rfl) _
  have hT5 : Turn G W ((U2).setCell ⟨a, 782, none⟩ (.int .i64 0)) a { d with rep := 0, cmd := (33 : Int), n := [], v := 0 } := by
    refine Turn.then hs2 (hk2.then (hkR.mono fun _ _ h => h.elim)) ⟨G2, ⟨pv2, .slice na 0 ncap, hb5.sv 0, (hp3.kept hkR (fun _ _ => id)).kept kA (fun b hb (hS : b = a) => o1 (by rw [hb, hS])), (hz.kept hkR (fun _ _ => id)).kept kA (fun b hb (hS : b = a) => o2 (by rw [← hob, hb, hS])), o1, (by rw [hob]; exact o2), (by rw [hob]; exact o3), (by rw [hob]; exact hG2)⟩, fun i h => .inl h, kA.mono fun i _ (hi : i = a) => by rw [hi]; exact (hG2 a).2 (.inl rfl)⟩
  have HT5 := Lib.hid hT5
  have HRES := Lib.hid (show d.plainSign 33 = { d with rep := 0, cmd := (33 : Int), n := [], v := 0 } from by
    unfold Dec.plainSign
    rw [if_neg (by omega), if_pos (by omega)]; rfl)
  clear hb3 hp3 hn3 o1 o2 o3 hG2 hob hs2 hk2 hncm hnil hnl hz hkR hbR hb4 hb4' hb5 kA hT5
  go_enter Try.func31, Try.ntmps31
  go_wp2
  go_region_law (fail)
  all_goals
    go_wp2
    go_end0
    refine ⟨rfl, ?_⟩
    rw [HRES.out]
    exact HT5.out
set_option maxRecDepth 100000 in
set_option maxHeartbeats 16000000 in
theorem signA_cmd34 (G : Nat → Prop) (d : Dec) (W : World) (a c M : Nat) (hd : DOwn G W a d) (hok : DecOk M d) (hf : d.full = false) (hc : 33 ≤ c ∧ c ≤ 126) (hcmd : d.cmd = 0) (hk : c = 34) :
    Calls Try.prog 31 #[.pointer (some ⟨a, 0, none⟩), .int .u8 c] W fun e w' => e = .returned (.tuple #[]) ∧ Turn G W w' a (d.plainSign c) := by
  have HT1 := Lib.hid (Turn.refl (w := W) hd)
  have HOK1 := Lib.hid (And.intro hok hf)
  obtain ⟨pv, nv, hb, -⟩ := hd
  have k0 : W.cell? ⟨a, 780, none⟩ = some (.int .u8 0) := by rw [← hcmd]; exact hb.fcmd.1
  clear hb hok hf hcmd
  obtain ⟨G1, ⟨pv1, nv1, hb1, hp1, hn1, o1, o2, o3, hG1⟩, hs1, hk1⟩ := HT1.out
  obtain ⟨R, hR⟩ := nat_of HOK1.out.1.rep.1
  have hRb : R ≤ 65535 := by have := HOK1.out.1.rep.2; omega
  have j0 : W.cell? ⟨a, 783, none⟩ = some (.int .i64 (R : Int)) := by rw [← hR]; exact hb1.frep.1
  have j0' := hb1.frep.2
  obtain ⟨n, hn⟩ : ∃ n, max R 1 = n := ⟨_, rfl⟩
  have m1 : (if (R : Int) < 1 then 1 else (R : Int)) = (n : Int) := by rw [← hn]; split <;> omega
  have m2 : (if R = 0 then 1 else (R : Int)) = (n : Int) := by rw [← hn]; split <;> omega
  have m3 : (if (R : Int) ≤ 0 then 1 else (R : Int)) = (n : Int) := by rw [← hn]; split <;> omega
  obtain ⟨V1, hV1⟩ : ∃ V, W.setCell ⟨a, 783, none⟩ (.int .i64 0) = V := ⟨_, rfl⟩
  have hb2 : DBlk V1 a { d with rep := 0 } pv1 nv1 := by rw [← hV1]; exact hb1.srep 0
  have HT2 := Lib.hid (show Turn G W V1 a { d with rep := 0 } by rw [← hV1]; exact HT1.out.set (fun _ _ h => h.srep 0) rfl rfl)
  have HB2 := Lib.hid hb2
  have HRN := Lib.hid (And.intro hR hn)
  clear hb1 hp1 hn1 o1 o2 o3 hG1 hs1 hk1 hR hn hb2
  subst hk
  obtain ⟨G2, ⟨pv2, nv2, hb3, hp3, hn3, o1, o2, o3, hG2⟩, hs2, hk2⟩ := HT2.out
  obtain ⟨na, ncap, hnv, -, hncap, hncm, hnil, -⟩ := hn3.shape
  obtain ⟨nl, hnl⟩ : ∃ nl, ({ d with rep := 0 } : Dec).n.length = nl := ⟨_, rfl⟩
  rw [hnl] at hnv hncap
  subst hnv
  have hz := hn3.zero
  have hob : (Value.slice na 0 ncap).ownBlock = (Value.slice na nl ncap).ownBlock := by cases na <;> rfl
  obtain ⟨WR, hWR⟩ : ∃ WR, V1.drew = WR := ⟨_, rfl⟩
  have hkR : Kept (fun _ => False) V1 WR := by rw [← hWR]; exact (Kept.refl _ _).drew
  have hbR : DBlk WR a { d with rep := 0 } pv2 (.slice na nl ncap) := hb3.kept hkR id
  obtain ⟨u0, u0'⟩ := hbR.fcmd
  obtain ⟨u1, u1'⟩ := hbR.fn
  have hb4 := hbR.scmd (34 : Int)
  obtain ⟨U1, hU1⟩ : ∃ U, WR.setCell ⟨a, 780, none⟩ (.int .u8 34) = U := ⟨_, rfl⟩
  have hb4' : DBlk U1 a { d with rep := 0, cmd := (34 : Int) } pv2 (.slice na nl ncap) := by rw [← hU1]; exact hb4
  obtain ⟨v1, v1'⟩ := hb4'.fn
  obtain ⟨U2, hU2⟩ : ∃ U, U1.setCell ⟨a, 781, none⟩ (.slice na 0 ncap) = U := ⟨_, rfl⟩
  have hb5 : DBlk U2 a { d with rep := 0, cmd := (34 : Int), n := [] } pv2 (.slice na 0 ncap) := by rw [← hU2]; exact hb4'.sn (.slice na 0 ncap) []
  obtain ⟨v2, v2'⟩ := hb5.fv
  have kA : Kept (fun i => i = a) WR ((U2).setCell ⟨a, 782, none⟩ (.int .i64 0)) := by
    rw [← hU2, ← hU1]
    exact (((Kept.refl (fun i => i = a) WR).setCell (p := ⟨a, 780, none⟩) (.inl rfl) _).setCell (p := ⟨a, 781, none⟩) (.inl rfl) _).setCell (p := ⟨a, 782, none⟩) (.inl rfl) _
  have hT5 : Turn G W ((U2).setCell ⟨a, 782, none⟩ (.int .i64 0)) a { d with rep := 0, cmd := (34 : Int), n := [], v := 0 } := by
    refine Turn.then hs2 (hk2.then (hkR.mono fun _ _ h => h.elim)) ⟨G2, ⟨pv2, .slice na 0 ncap, hb5.sv 0, (hp3.kept hkR (fun _ _ => id)).kept kA (fun b hb (hS : b = a) => o1 (by rw [hb, hS])), (hz.kept hkR (fun _ _ => id)).kept kA (fun b hb (hS : b = a) => o2 (by rw [← hob, hb, hS])), o1, (by rw [hob]; exact o2), (by rw [hob]; exact o3), (by rw [hob]; exact hG2)⟩, fun i h => .inl h, kA.mono fun i _ (hi : i = a) => by rw [hi]; exact (hG2 a).2 (.inl rfl)⟩
  have HT5 := Lib.hid hT5
  have HRES := Lib.hid (show d.plainSign 34 = { d with rep := 0, cmd := (34 : Int), n := [], v := 0 } from by
    unfold Dec.plainSign
    rw [if_neg (by omega), if_pos (by omega)]; rfl)
  clear hb3 hp3 hn3 o1 o2 o3 hG2 hob hs2 hk2 hncm hnil hnl hz hkR hbR hb4 hb4' hb5 kA hT5
  go_enter Try.func31, Try.ntmps31
  go_wp2
  go_region_law (fail)
  all_goals
    go_wp2
    go_end0
    refine ⟨rfl, ?_⟩
    rw [HRES.out]
    exact HT5.out
set_option maxRecDepth 100000 in
set_option maxHeartbeats 16000000 in
theorem signA_cmd35 (G : Nat → Prop) (d : Dec) (W : World) (a c M : Nat) (hd : DOwn G W a d) (hok : DecOk M d) (hf : d.full = false) (hc : 33 ≤ c ∧ c ≤ 126) (hcmd : d.cmd = 0) (hk : c = 35) :
    Calls Try.prog 31 #[.pointer (some ⟨a, 0, none⟩), .int .u8 c] W fun e w' => e = .returned (.tuple #[]) ∧ Turn G W w' a (d.plainSign c) := by
  have HT1 := Lib.hid (Turn.refl (w := W) hd)
  have HOK1 := Lib.hid (And.intro hok hf)
  obtain ⟨pv, nv, hb, -⟩ := hd
  have k0 : W.cell? ⟨a, 780, none⟩ = some (.int .u8 0) := by rw [← hcmd]; exact hb.fcmd.1
  clear hb hok hf hcmd
  obtain ⟨G1, ⟨pv1, nv1, hb1, hp1, hn1, o1, o2, o3, hG1⟩, hs1, hk1⟩ := HT1.out
  obtain ⟨R, hR⟩ := nat_of HOK1.out.1.rep.1
  have hRb : R ≤ 65535 := by have := HOK1.out.1.rep.2; omega
  have j0 : W.cell? ⟨a, 783, none⟩ = some (.int .i64 (R : Int)) := by rw [← hR]; exact hb1.frep.1
  have j0' := hb1.frep.2
  obtain ⟨n, hn⟩ : ∃ n, max R 1 = n := ⟨_, rfl⟩
  have m1 : (if (R : Int) < 1 then 1 else (R : Int)) = (n : Int) := by rw [← hn]; split <;> omega
  have m2 : (if R = 0 then 1 else (R : Int)) = (n : Int) := by rw [← hn]; split <;> omega
  have m3 : (if (R : Int) ≤ 0 then 1 else (R : Int)) = (n : Int) := by rw [← hn]; split <;> omega
  obtain ⟨V1, hV1⟩ : ∃ V, W.setCell ⟨a, 783, none⟩ (.int .i64 0) = V := ⟨_, rfl⟩
  have hb2 : DBlk V1 a { d with rep := 0 } pv1 nv1 := by rw [← hV1]; exact hb1.srep 0
  have HT2 := Lib.hid (show Turn G W V1 a { d with rep := 0 } by rw [← hV1]; exact HT1.out.set (fun _ _ h => h.srep 0) rfl rfl)
  have HB2 := Lib.hid hb2
  have HRN := Lib.hid (And.intro hR hn)
  clear hb1 hp1 hn1 o1 o2 o3 hG1 hs1 hk1 hR hn hb2
  subst hk
  obtain ⟨G2, ⟨pv2, nv2, hb3, hp3, hn3, o1, o2, o3, hG2⟩, hs2, hk2⟩ := HT2.out
  obtain ⟨na, ncap, hnv, -, hncap, hncm, hnil, -⟩ := hn3.shape
  obtain ⟨nl, hnl⟩ : ∃ nl, ({ d with rep := 0 } : Dec).n.length = nl := ⟨_, rfl⟩
  rw [hnl] at hnv hncap
  subst hnv
  have hz := hn3.zero
  have hob : (Value.slice na 0 ncap).ownBlock = (Value.slice na nl ncap).ownBlock := by cases na <;> rfl
  obtain ⟨WR, hWR⟩ : ∃ WR, V1.drew = WR := ⟨_, rfl⟩
  have hkR : Kept (fun _ => False) V1 WR := by rw [← hWR]; exact (Kept.refl _ _).drew
  have hbR : DBlk WR a { d with rep := 0 } pv2 (.slice na nl ncap) := hb3.kept hkR id
  obtain ⟨u0, u0'⟩ := hbR.fcmd
  obtain ⟨u1, u1'⟩ := hbR.fn
  have hb4 := hbR.scmd (35 : Int)
  obtain ⟨U1, hU1⟩ : ∃ U, WR.setCell ⟨a, 780, none⟩ (.int .u8 35) = U := ⟨_, rfl⟩
  have hb4' : DBlk U1 a { d with rep := 0, cmd := (35 : Int) } pv2 (.slice na nl ncap) := by rw [← hU1]; exact hb4
  obtain ⟨v1, v1'⟩ := hb4'.fn
  obtain ⟨U2, hU2⟩ : ∃ U, U1.setCell ⟨a, 781, none⟩ (.slice na 0 ncap) = U := ⟨_, rfl⟩
  have hb5 : DBlk U2 a { d with rep := 0, cmd := (35 : Int), n := [] } pv2 (.slice na 0 ncap) := by rw [← hU2]; exact hb4'.sn (.slice na 0 ncap) []
  obtain ⟨v2, v2'⟩ := hb5.fv
  have kA : Kept (fun i => i = a) WR ((U2).setCell ⟨a, 782, none⟩ (.int .i64 0)) := by
    rw [← hU2, ← hU1]
    exact (((Kept.refl (fun i => i = a) WR).setCell (p := ⟨a, 780, none⟩) (.inl rfl) _).setCell (p := ⟨a, 781, none⟩) (.inl rfl) _).setCell (p := ⟨a, 782, none⟩) (.inl rfl) _
  have hT5 : Turn G W ((U2).setCell ⟨a, 782, none⟩ (.int .i64 0)) a { d with rep := 0, cmd := (35 : Int), n := [], v := 0 } := by
    refine Turn.then hs2 (hk2.then (hkR.mono fun _ _ h => h.elim)) ⟨G2, ⟨pv2, .slice na 0 ncap, hb5.sv 0, (hp3.kept hkR (fun _ _ => id)).kept kA (fun b hb (hS : b = a) => o1 (by rw [hb, hS])), (hz.kept hkR (fun _ _ => id)).kept kA (fun b hb (hS : b = a) => o2 (by rw [← hob, hb, hS])), o1, (by rw [hob]; exact o2), (by rw [hob]; exact o3), (by rw [hob]; exact hG2)⟩, fun i h => .inl h, kA.mono fun i _ (hi : i = a) => by rw [hi]; exact (hG2 a).2 (.inl rfl)⟩
  have HT5 := Lib.hid hT5
  have HRES := Lib.hid (show d.plainSign 35 = { d with rep := 0, cmd := (35 : Int), n := [], v := 0 } from by
    unfold Dec.plainSign
    rw [if_neg (by omega), if_pos (by omega)]; rfl)
  clear hb3 hp3 hn3 o1 o2 o3 hG2 hob hs2 hk2 hncm hnil hnl hz hkR hbR hb4 hb4' hb5 kA hT5
  go_enter Try.func31, Try.ntmps31
  go_wp2
  go_region_law (fail)
  all_goals
    go_wp2
    go_end0
    refine ⟨rfl, ?_⟩
    rw [HRES.out]
    exact HT5.out
end Go.Proofs.Ytomcjdonacckfaa
