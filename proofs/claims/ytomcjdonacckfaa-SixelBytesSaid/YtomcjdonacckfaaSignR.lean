/- One sign of the document's: sign. -/
import Derived.Test.YtomcjdonacckfaaSignA
import Derived.Test.YtomcjdonacckfaaDone2R
namespace Go.Proofs.Ytomcjdonacckfaa.R
open Go.Proofs.Ytomcjdonacckfaa Go.RowKit
set_option linter.unusedVariables false
set_option linter.unusedSimpArgs false
theorem Turn.nilN {G : Nat → Prop} {w W : World} {a : Nat} {d : Dec} (h : Turn G w W a d) : Turn G w (W.setCell ⟨a, 781, none⟩ (.slice none 0 0)) a { d with n := [] } := by
  obtain ⟨G', ⟨pv, nv, hb, hp, hn, h1, h2, h3, hG⟩, g2, hk⟩ := h
  have k6 : Kept (fun j => j = a) W (W.setCell ⟨a, 781, none⟩ (.slice none 0 0)) := (Kept.refl (fun j => j = a) W).setCell (p := ⟨a, 781, none⟩) (.inl rfl) _
  refine Turn.then g2 hk ⟨fun i => i = a ∨ pv.ownBlock = some i, ⟨pv, .slice none 0 0, hb.sn _ [], hp.kept k6 (fun b hb (hS : b = a) => h1 (by rw [hb, hS])), Own.nil _ _ _, h1, (by intro h; cases h), (fun b _ hn => by cases hn), fun i => ?_⟩, ?_, ?_⟩
  · constructor
    · rintro (h | h); exact .inl h; exact .inr (.inl h)
    · rintro (h | h | h); exact .inl h; exact .inr h; cases h
  · rintro i (h | h)
    · exact .inl ((hG i).2 (.inl h))
    · exact .inl ((hG i).2 (.inr (.inl h)))
  · exact k6.mono fun i _ (hi : i = a) => (hG i).2 (.inl hi)
set_option maxRecDepth 100000 in
set_option maxHeartbeats 16000000 in
theorem sign_digit (G : Nat → Prop) (d : Dec) (W : World) (a c M : Nat) (hd : DOwn G W a d) (hok : DecOk M d) (hf : d.full = false) (hc : 33 ≤ c ∧ c ≤ 126) (hcmd : d.cmd ≠ 0) (h48 : 48 ≤ c ∧ c ≤ 57) :
    Calls Try.prog 34 #[.pointer (some ⟨a, 0, none⟩), .int .u8 c] W fun e w' => e = .returned (.tuple #[]) ∧ Turn G W w' a ({ d with v := min (10 * d.v + ((c : Int) - 48)) 65535 }) := by
  have HD := Lib.hid hd
  obtain ⟨pv, nv, hb, -⟩ := hd
  obtain ⟨k0, -⟩ := hb.fcmd
  obtain ⟨k1, k1'⟩ := hb.fv
  obtain ⟨C, hC⟩ : ∃ C, d.cmd = C := ⟨_, rfl⟩
  obtain ⟨V, hV⟩ := nat_of hok.num.v.1
  have hVb := hok.num.v.2
  rw [hC] at k0 hcmd
  rw [hV] at k1 hVb ⊢
  have e0 : (C != 0) = true := by simp; exact hcmd
  have g1 : decide (48 ≤ c) = true := decide_eq_true h48.1
  have g2 : decide (c ≤ 57) = true := decide_eq_true h48.2
  obtain ⟨t, ht⟩ : ∃ t : Nat, c - 48 = t := ⟨_, rfl⟩
  have q1 : IntKind.u8.wrap ((c : Int) - 48) = (t : Int) := by rw [IntKind.wrap_u8]; omega
  have q2 : IntKind.i64.wrap (t : Int) = (t : Int) := IntWalk.i64_in _ (by omega)
  obtain ⟨S, hS⟩ : ∃ S : Nat, 10 * V + t = S := ⟨_, rfl⟩
  obtain ⟨T, hT⟩ : ∃ T : Nat, 10 * V = T := ⟨_, rfl⟩
  have q3 : IntKind.i64.wrap (10 * (V : Int)) = (T : Int) := by rw [IntWalk.i64_in _ (by omega)]; omega
  have q4 : IntKind.i64.wrap ((T : Int) + (t : Int)) = (S : Int) := by rw [IntWalk.i64_in _ (by omega)]; omega
  obtain ⟨r, hr⟩ : ∃ r, min (10 * (V : Int) + ((c : Int) - 48)) 65535 = r := ⟨_, rfl⟩
  rw [hr]
  have hrS : r = if 65535 < S then 65535 else (S : Int) := by rw [← hr]; split <;> omega
  obtain ⟨V1, hV1⟩ : ∃ V, W.setCell ⟨a, 782, none⟩ (.int .i64 (S : Int)) = V := ⟨_, rfl⟩
  have hb1 := hb.sv (S : Int)
  rw [hV1] at hb1
  obtain ⟨j1, j1'⟩ := hb1.fv
  have HT1 := Lib.hid (show Turn G W V1 a { d with v := (S : Int) } by rw [← hV1]; exact (Turn.refl HD.out).set (fun _ _ h => h.sv (S : Int)) rfl rfl)
  clear hb hC hV hok hcmd hr hf ht hT hVb hb1 hS
  by_cases hS : 65535 < S
  · rw [if_pos hS] at hrS
    subst hrS
    have g9 : decide (65535 < S) = true := decide_eq_true hS
    have g9' : decide ((65535 : Int) < (S : Int)) = true := decide_eq_true (by omega)
    go_enter Try.func34, Try.ntmps34
    go_wp2
    exact bodyPost_ret (results_none rfl _ _ _) rfl ⟨rfl, HT1.out.set (fun _ _ h => h.sv 65535) rfl rfl⟩
  · rw [if_neg hS] at hrS
    subst hrS
    have g9 : decide (65535 < S) = false := decide_eq_false hS
    have g9' : decide ((65535 : Int) < (S : Int)) = false := decide_eq_false (by omega)
    have HS := Lib.hid hS
    clear hS
    go_enter Try.func34, Try.ntmps34
    go_wp2
    exact bodyPost_ret (results_none rfl _ _ _) rfl ⟨rfl, HT1.out⟩
set_option maxRecDepth 100000 in
set_option maxHeartbeats 16000000 in
theorem sign_semi (G : Nat → Prop) (d : Dec) (W : World) (a c M : Nat) (hd : DOwn G W a d) (hok : DecOk M d) (hf : d.full = false) (hc : 33 ≤ c ∧ c ≤ 126) (hcmd : d.cmd ≠ 0) (h59 : c = 59) :
    Calls Try.prog 34 #[.pointer (some ⟨a, 0, none⟩), .int .u8 c] W fun e w' => e = .returned (.tuple #[]) ∧ Turn G W w' a (d.push) := by
  subst h59
  have HP := Lib.hid (push_any G d W a hd hok.num.len)
  obtain ⟨pv, nv, hb, -⟩ := hd
  obtain ⟨k0, -⟩ := hb.fcmd
  obtain ⟨C, hC⟩ : ∃ C, d.cmd = C := ⟨_, rfl⟩
  rw [hC] at k0 hcmd
  have e0 : (C != 0) = true := by simp; exact hcmd
  clear hb hC hok hcmd hf
  go_enter Try.func34, Try.ntmps34
  go_wp2_with fail
  refine HP.out.mono ?_
  rintro e w1 ⟨rfl, hT⟩
  have HT := Lib.hid hT
  clear hT
  go_wp2
  exact bodyPost_ret (results_none rfl _ _ _) rfl ⟨rfl, HT.out⟩
set_option maxRecDepth 100000 in
set_option maxHeartbeats 16000000 in
theorem signB_full (G : Nat → Prop) (d : Dec) (W : World) (a c M : Nat) (hd : DOwn G W a d) (hok : DecOk M d) (hf : d.full = false) (hc : 33 ≤ c ∧ c ≤ 126) (hcmd : d.cmd ≠ 0) (hnd : c < 48 ∨ 57 < c) (h59 : c ≠ 59) (hfu : (d.done d.w.toNat d.h.toNat).full = true) :
    Calls Try.prog 34 #[.pointer (some ⟨a, 0, none⟩), .int .u8 c] W fun e w' => e = .returned (.tuple #[]) ∧ Turn G W w' a (d.done d.w.toNat d.h.toNat) := by
  have HDN := Lib.hid (done_any G d W a d.w.toNat d.h.toNat M hd hok.pic hf hok.num hok.cmd)
  have hok1 := done_ok hok hf
  obtain ⟨pv, nv, hb, -⟩ := hd
  obtain ⟨k0, -⟩ := hb.fcmd
  obtain ⟨C, hC⟩ : ∃ C, d.cmd = C := ⟨_, rfl⟩
  rw [hC] at k0 hcmd
  have e0 : (C != 0) = true := by simp; exact hcmd
  obtain ⟨D1, hD1⟩ : ∃ D1, d.done d.w.toNat d.h.toNat = D1 := ⟨_, rfl⟩
  rw [hD1] at hok1 hfu HDN ⊢
  have HOK1 := Lib.hid (And.intro hok1 hfu)
  have h59' : ((c : Int) == 59) = false := by simp; omega
  clear hb hC hok hf hcmd hok1 hfu hD1
  rcases hnd with hnd | hnd
  case inl =>
    have g1 : decide (48 ≤ c) = false := decide_eq_false (by omega)
    go_enter Try.func34, Try.ntmps34
    go_wp2_with fail
    refine HDN.out.mono ?_
    rintro e w1 ⟨rfl, hT1⟩
    have HT1 := Lib.hid hT1
    clear hT1
    obtain ⟨G1, ⟨pv1, nv1, hb1, -⟩, -⟩ := HT1.out
    have jf : w1.cell? ⟨a, 778, none⟩ = some (.bool true) := by rw [← HOK1.out.2]; exact hb1.ffull.1
    clear hb1
    go_wp2
    exact bodyPost_ret (results_none rfl _ _ _) rfl ⟨rfl, HT1.out⟩
  case inr =>
    have g1 : decide (48 ≤ c) = true := decide_eq_true (by omega)
    have g2 : decide (c ≤ 57) = false := decide_eq_false (by omega)
    go_enter Try.func34, Try.ntmps34
    go_wp2_with fail
    refine HDN.out.mono ?_
    rintro e w1 ⟨rfl, hT1⟩
    have HT1 := Lib.hid hT1
    clear hT1
    obtain ⟨G1, ⟨pv1, nv1, hb1, -⟩, -⟩ := HT1.out
    have jf : w1.cell? ⟨a, 778, none⟩ = some (.bool true) := by rw [← HOK1.out.2]; exact hb1.ffull.1
    clear hb1
    go_wp2
    exact bodyPost_ret (results_none rfl _ _ _) rfl ⟨rfl, HT1.out⟩
set_option maxRecDepth 100000 in
set_option maxHeartbeats 16000000 in
theorem signA_six (G : Nat → Prop) (d : Dec) (W : World) (a c M : Nat) (hd : DOwn G W a d) (hok : DecOk M d) (hf : d.full = false) (hc : 33 ≤ c ∧ c ≤ 126) (hcmd : d.cmd = 0) (h63 : 63 ≤ c) :
    Calls Try.prog 34 #[.pointer (some ⟨a, 0, none⟩), .int .u8 c] W fun e w' => e = .returned (.tuple #[]) ∧ Turn G W w' a (d.plainSign c) := by
  have HT1 := Lib.hid (Turn.refl (w := W) hd)
  have HOK1 := Lib.hid (And.intro hok hf)
  obtain ⟨pv, nv, hb, -⟩ := hd
  have k0 : W.cell? ⟨a, 780, none⟩ = some (.int .u8 0) := by rw [← hcmd]; exact hb.fcmd.1
  clear hb hok hf hcmd
  go_enter Try.func34, Try.ntmps34
  obtain ⟨G1, ⟨pv1, nv1, hb1, hp1, hn1, o1, o2, o3, hG1⟩, hs1, hk1⟩ := HT1.out
  obtain ⟨R, hR⟩ := nat_of HOK1.out.1.rep.1
  have hRb : R ≤ 65535 := by have := HOK1.out.1.rep.2; omega
  have j0 : W.cell? ⟨a, 783, none⟩ = some (.int .i64 (R : Int)) := by rw [← hR]; exact hb1.frep.1
  have j0' := hb1.frep.2
  obtain ⟨V1, hV1⟩ : ∃ V, W.setCell ⟨a, 783, none⟩ (.int .i64 0) = V := ⟨_, rfl⟩
  have hb2 : DBlk V1 a { d with rep := 0 } pv1 nv1 := by rw [← hV1]; exact hb1.srep 0
  have HT2 := Lib.hid (show Turn G W V1 a { d with rep := 0 } by rw [← hV1]; exact HT1.out.set (fun _ _ h => h.srep 0) rfl rfl)
  have HB2 := Lib.hid hb2
  clear hb1 hp1 hn1 o1 o2 o3 hG1 hs1 hk1 hb2
  obtain ⟨n, hn⟩ : ∃ n, max R 1 = n := ⟨_, rfl⟩
  have HRN := Lib.hid (And.intro hR hn)
  by_cases hR0 : R = 0
  · have eR : ((R : Int) == 0) = true := by simp; exact hR0
    obtain rfl : n = 1 := by omega
    clear hR hn hR0
    have g63 : decide (63 ≤ c) = true := decide_eq_true h63
    have g63' : decide ((63 : Int) ≤ (c : Int)) = true := decide_eq_true (by omega)
    obtain ⟨t, ht⟩ : ∃ t : Nat, c - 63 = t := ⟨_, rfl⟩
    have p1 : IntKind.i64.wrap ((c : Int) - 63) = (t : Int) := by rw [IntWalk.i64_in _ (by omega)]; omega
    have p2 : IntKind.i64.wrap (c : Int) = (c : Int) := IntWalk.i64_in _ (by omega)
    obtain ⟨G2, hDO2, hs2, hk2⟩ := HT2.out
    have hok1 := HOK1.out.1
    have HSX := Lib.hid (sixel_any G2 { d with rep := 0 } V1 a t 1 d.x.toNat d.y.toNat d.w.toNat d.h.toNat M d.now.toNat hDO2 ⟨hok1.pic.w, hok1.pic.h, hok1.pic.most, hok1.pic.M, hok1.pic.wb, hok1.pic.hb, hok1.pic.z, hok1.pic.p⟩ HOK1.out.2 (by omega) (by have := HRN.out.2; omega) (show d.x = _ by have := hok1.x.1; omega) (show d.y = _ by have := hok1.y.1; omega) (by have := hok1.x.2; omega) (by have := hok1.y.2; omega) (show d.now = _ by have := hok1.now.1; omega) (by have := hok1.now; omega))
    have HRES := Lib.hid (show d.plainSign c = ({ d with rep := 0 } : Dec).sixel t 1 d.x.toNat d.y.toNat d.w.toNat d.h.toNat d.now.toNat from by
      unfold Dec.plainSign
      rw [if_pos h63, ht, HRN.out.1, show (max (R : Int) 1).toNat = 1 by have := HRN.out.2; omega])
    have HH2 := Lib.hid (And.intro hs2 hk2)
    clear hDO2 hs2 hk2 hok1 ht
    go_wp2_with fail
    refine HSX.out.mono ?_
    rintro e w9 ⟨rfl, hT9⟩
    have HT9 := Lib.hid hT9
    clear hT9
    go_wp2
    go_end0
    refine ⟨rfl, ?_⟩
    rw [HRES.out]
    exact Turn.then HH2.out.1 HH2.out.2 HT9.out
  · have eR : ((R : Int) == 0) = false := by simp; exact hR0
    obtain rfl : R = n := by omega
    clear hR hn hR0
    have g63 : decide (63 ≤ c) = true := decide_eq_true h63
    have g63' : decide ((63 : Int) ≤ (c : Int)) = true := decide_eq_true (by omega)
    obtain ⟨t, ht⟩ : ∃ t : Nat, c - 63 = t := ⟨_, rfl⟩
    have p1 : IntKind.i64.wrap ((c : Int) - 63) = (t : Int) := by rw [IntWalk.i64_in _ (by omega)]; omega
    have p2 : IntKind.i64.wrap (c : Int) = (c : Int) := IntWalk.i64_in _ (by omega)
    obtain ⟨G2, hDO2, hs2, hk2⟩ := HT2.out
    have hok1 := HOK1.out.1
    have HSX := Lib.hid (sixel_any G2 { d with rep := 0 } V1 a t R d.x.toNat d.y.toNat d.w.toNat d.h.toNat M d.now.toNat hDO2 ⟨hok1.pic.w, hok1.pic.h, hok1.pic.most, hok1.pic.M, hok1.pic.wb, hok1.pic.hb, hok1.pic.z, hok1.pic.p⟩ HOK1.out.2 (by omega) (by have := HRN.out.2; omega) (show d.x = _ by have := hok1.x.1; omega) (show d.y = _ by have := hok1.y.1; omega) (by have := hok1.x.2; omega) (by have := hok1.y.2; omega) (show d.now = _ by have := hok1.now.1; omega) (by have := hok1.now; omega))
    have HRES := Lib.hid (show d.plainSign c = ({ d with rep := 0 } : Dec).sixel t R d.x.toNat d.y.toNat d.w.toNat d.h.toNat d.now.toNat from by
      unfold Dec.plainSign
      rw [if_pos h63, ht, HRN.out.1, show (max (R : Int) 1).toNat = R by have := HRN.out.2; omega])
    have HH2 := Lib.hid (And.intro hs2 hk2)
    clear hDO2 hs2 hk2 hok1 ht
    go_wp2_with fail
    refine HSX.out.mono ?_
    rintro e w9 ⟨rfl, hT9⟩
    have HT9 := Lib.hid hT9
    clear hT9
    go_wp2
    go_end0
    refine ⟨rfl, ?_⟩
    rw [HRES.out]
    exact Turn.then HH2.out.1 HH2.out.2 HT9.out
set_option maxRecDepth 100000 in
set_option maxHeartbeats 16000000 in
theorem signB_six (G : Nat → Prop) (d : Dec) (W : World) (a c M : Nat) (hd : DOwn G W a d) (hok : DecOk M d) (hf : d.full = false) (hc : 33 ≤ c ∧ c ≤ 126) (hcmd : d.cmd ≠ 0) (hnd : c < 48 ∨ 57 < c) (h59 : c ≠ 59) (hfu : (d.done d.w.toNat d.h.toNat).full = false) (h63 : 63 ≤ c) :
    Calls Try.prog 34 #[.pointer (some ⟨a, 0, none⟩), .int .u8 c] W fun e w' => e = .returned (.tuple #[]) ∧ Turn G W w' a ((d.done d.w.toNat d.h.toNat).plainSign c) := by
  have HDN := Lib.hid (done_any G d W a d.w.toNat d.h.toNat M hd hok.pic hf hok.num hok.cmd)
  have hok1 := done_ok hok hf
  obtain ⟨pv, nv, hb, -⟩ := hd
  obtain ⟨k0, -⟩ := hb.fcmd
  obtain ⟨C, hC⟩ : ∃ C, d.cmd = C := ⟨_, rfl⟩
  rw [hC] at k0 hcmd
  have e0 : (C != 0) = true := by simp; exact hcmd
  obtain ⟨D1, hD1⟩ : ∃ D1, d.done d.w.toNat d.h.toNat = D1 := ⟨_, rfl⟩
  rw [hD1] at hok1 hfu HDN ⊢
  have HOK1 := Lib.hid (And.intro hok1 hfu)
  have h59' : ((c : Int) == 59) = false := by simp; omega
  clear hb hC hok hf hcmd hok1 hfu hD1
  have g1 : decide (48 ≤ c) = true := decide_eq_true (by omega)
  have g2 : decide (c ≤ 57) = false := decide_eq_false (by omega)
  clear hnd h59
  go_enter Try.func34, Try.ntmps34
  go_wp2_with fail
  refine HDN.out.mono ?_
  rintro e w1 ⟨rfl, hT1⟩
  have HT1 := Lib.hid hT1
  clear hT1
  obtain ⟨G1, ⟨pv1, nv1, hb1, hp1, hn1, o1, o2, o3, hG1⟩, hs1, hk1⟩ := HT1.out
  obtain ⟨R, hR⟩ := nat_of HOK1.out.1.rep.1
  have hRb : R ≤ 65535 := by have := HOK1.out.1.rep.2; omega
  have j0 : w1.cell? ⟨a, 783, none⟩ = some (.int .i64 (R : Int)) := by rw [← hR]; exact hb1.frep.1
  have j0' := hb1.frep.2
  obtain ⟨V1, hV1⟩ : ∃ V, w1.setCell ⟨a, 783, none⟩ (.int .i64 0) = V := ⟨_, rfl⟩
  have hb2 : DBlk V1 a { D1 with rep := 0 } pv1 nv1 := by rw [← hV1]; exact hb1.srep 0
  have HT2 := Lib.hid (show Turn G W V1 a { D1 with rep := 0 } by rw [← hV1]; exact HT1.out.set (fun _ _ h => h.srep 0) rfl rfl)
  have HB2 := Lib.hid hb2
  have jf : w1.cell? ⟨a, 778, none⟩ = some (.bool false) := by rw [← HOK1.out.2]; exact hb1.ffull.1
  clear hb1 hp1 hn1 o1 o2 o3 hG1 hs1 hk1 hb2
  obtain ⟨n, hn⟩ : ∃ n, max R 1 = n := ⟨_, rfl⟩
  have HRN := Lib.hid (And.intro hR hn)
  by_cases hR0 : R = 0
  · have eR : ((R : Int) == 0) = true := by simp; exact hR0
    obtain rfl : n = 1 := by omega
    clear hR hn hR0
    have g63 : decide (63 ≤ c) = true := decide_eq_true h63
    have g63' : decide ((63 : Int) ≤ (c : Int)) = true := decide_eq_true (by omega)
    obtain ⟨t, ht⟩ : ∃ t : Nat, c - 63 = t := ⟨_, rfl⟩
    have p1 : IntKind.i64.wrap ((c : Int) - 63) = (t : Int) := by rw [IntWalk.i64_in _ (by omega)]; omega
    have p2 : IntKind.i64.wrap (c : Int) = (c : Int) := IntWalk.i64_in _ (by omega)
    obtain ⟨G2, hDO2, hs2, hk2⟩ := HT2.out
    have hok1 := HOK1.out.1
    have HSX := Lib.hid (sixel_any G2 { D1 with rep := 0 } V1 a t 1 D1.x.toNat D1.y.toNat D1.w.toNat D1.h.toNat M D1.now.toNat hDO2 ⟨hok1.pic.w, hok1.pic.h, hok1.pic.most, hok1.pic.M, hok1.pic.wb, hok1.pic.hb, hok1.pic.z, hok1.pic.p⟩ HOK1.out.2 (by omega) (by have := HRN.out.2; omega) (show D1.x = _ by have := hok1.x.1; omega) (show D1.y = _ by have := hok1.y.1; omega) (by have := hok1.x.2; omega) (by have := hok1.y.2; omega) (show D1.now = _ by have := hok1.now.1; omega) (by have := hok1.now; omega))
    have HRES := Lib.hid (show D1.plainSign c = ({ D1 with rep := 0 } : Dec).sixel t 1 D1.x.toNat D1.y.toNat D1.w.toNat D1.h.toNat D1.now.toNat from by
      unfold Dec.plainSign
      rw [if_pos h63, ht, HRN.out.1, show (max (R : Int) 1).toNat = 1 by have := HRN.out.2; omega])
    have HH2 := Lib.hid (And.intro hs2 hk2)
    clear hDO2 hs2 hk2 hok1 ht
    go_wp2_with fail
    refine HSX.out.mono ?_
    rintro e w9 ⟨rfl, hT9⟩
    have HT9 := Lib.hid hT9
    clear hT9
    go_wp2
    go_end0
    refine ⟨rfl, ?_⟩
    rw [HRES.out]
    exact Turn.then HH2.out.1 HH2.out.2 HT9.out
  · have eR : ((R : Int) == 0) = false := by simp; exact hR0
    obtain rfl : R = n := by omega
    clear hR hn hR0
    have g63 : decide (63 ≤ c) = true := decide_eq_true h63
    have g63' : decide ((63 : Int) ≤ (c : Int)) = true := decide_eq_true (by omega)
    obtain ⟨t, ht⟩ : ∃ t : Nat, c - 63 = t := ⟨_, rfl⟩
    have p1 : IntKind.i64.wrap ((c : Int) - 63) = (t : Int) := by rw [IntWalk.i64_in _ (by omega)]; omega
    have p2 : IntKind.i64.wrap (c : Int) = (c : Int) := IntWalk.i64_in _ (by omega)
    obtain ⟨G2, hDO2, hs2, hk2⟩ := HT2.out
    have hok1 := HOK1.out.1
    have HSX := Lib.hid (sixel_any G2 { D1 with rep := 0 } V1 a t R D1.x.toNat D1.y.toNat D1.w.toNat D1.h.toNat M D1.now.toNat hDO2 ⟨hok1.pic.w, hok1.pic.h, hok1.pic.most, hok1.pic.M, hok1.pic.wb, hok1.pic.hb, hok1.pic.z, hok1.pic.p⟩ HOK1.out.2 (by omega) (by have := HRN.out.2; omega) (show D1.x = _ by have := hok1.x.1; omega) (show D1.y = _ by have := hok1.y.1; omega) (by have := hok1.x.2; omega) (by have := hok1.y.2; omega) (show D1.now = _ by have := hok1.now.1; omega) (by have := hok1.now; omega))
    have HRES := Lib.hid (show D1.plainSign c = ({ D1 with rep := 0 } : Dec).sixel t R D1.x.toNat D1.y.toNat D1.w.toNat D1.h.toNat D1.now.toNat from by
      unfold Dec.plainSign
      rw [if_pos h63, ht, HRN.out.1, show (max (R : Int) 1).toNat = R by have := HRN.out.2; omega])
    have HH2 := Lib.hid (And.intro hs2 hk2)
    clear hDO2 hs2 hk2 hok1 ht
    go_wp2_with fail
    refine HSX.out.mono ?_
    rintro e w9 ⟨rfl, hT9⟩
    have HT9 := Lib.hid hT9
    clear hT9
    go_wp2
    go_end0
    refine ⟨rfl, ?_⟩
    rw [HRES.out]
    exact Turn.then HH2.out.1 HH2.out.2 HT9.out
set_option maxRecDepth 100000 in
set_option maxHeartbeats 16000000 in
theorem signA_minus (G : Nat → Prop) (d : Dec) (W : World) (a c M : Nat) (hd : DOwn G W a d) (hok : DecOk M d) (hf : d.full = false) (hc : 33 ≤ c ∧ c ≤ 126) (hcmd : d.cmd = 0) (h45 : c = 45) :
    Calls Try.prog 34 #[.pointer (some ⟨a, 0, none⟩), .int .u8 c] W fun e w' => e = .returned (.tuple #[]) ∧ Turn G W w' a (d.plainSign c) := by
  subst h45
  have HT1 := Lib.hid (Turn.refl (w := W) hd)
  have HOK1 := Lib.hid (And.intro hok hf)
  obtain ⟨pv, nv, hb, -⟩ := hd
  have k0 : W.cell? ⟨a, 780, none⟩ = some (.int .u8 0) := by rw [← hcmd]; exact hb.fcmd.1
  clear hb hok hf hcmd
  go_enter Try.func34, Try.ntmps34
  obtain ⟨G1, ⟨pv1, nv1, hb1, hp1, hn1, o1, o2, o3, hG1⟩, hs1, hk1⟩ := HT1.out
  obtain ⟨R, hR⟩ := nat_of HOK1.out.1.rep.1
  have hRb : R ≤ 65535 := by have := HOK1.out.1.rep.2; omega
  have j0 : W.cell? ⟨a, 783, none⟩ = some (.int .i64 (R : Int)) := by rw [← hR]; exact hb1.frep.1
  have j0' := hb1.frep.2
  obtain ⟨V1, hV1⟩ : ∃ V, W.setCell ⟨a, 783, none⟩ (.int .i64 0) = V := ⟨_, rfl⟩
  have hb2 : DBlk V1 a { d with rep := 0 } pv1 nv1 := by rw [← hV1]; exact hb1.srep 0
  have HT2 := Lib.hid (show Turn G W V1 a { d with rep := 0 } by rw [← hV1]; exact HT1.out.set (fun _ _ h => h.srep 0) rfl rfl)
  have HB2 := Lib.hid hb2
  clear hb1 hp1 hn1 o1 o2 o3 hG1 hs1 hk1 hb2
  obtain ⟨n, hn⟩ : ∃ n, max R 1 = n := ⟨_, rfl⟩
  have HRN := Lib.hid (And.intro hR hn)
  by_cases hR0 : R = 0
  · have eR : ((R : Int) == 0) = true := by simp; exact hR0
    obtain rfl : n = 1 := by omega
    clear hR hn hR0
    obtain ⟨Y, hY⟩ := nat_of HOK1.out.1.y.1
    have hYb : Y ≤ 1048576 := by have := HOK1.out.1.y.2; omega
    obtain ⟨x0, x0'⟩ := HB2.out.fx
    obtain ⟨V2, hV2⟩ : ∃ V, V1.setCell ⟨a, 770, none⟩ (.int .i64 0) = V := ⟨_, rfl⟩
    have hb3 := HB2.out.sx 0
    rw [hV2] at hb3
    have y0 : V2.cell? ⟨a, 771, none⟩ = some (.int .i64 (Y : Int)) := by have h9 := hb3.fy.1; rw [show ({ d with rep := 0, x := 0 } : Dec).y = (Y : Int) from hY] at h9; exact h9
    have y0' := hb3.fy.2
    have p1 : IntKind.i64.wrap ((Y : Int) + 6) = (Y : Int) + 6 := IntWalk.i64_in _ (by omega)
    obtain ⟨V3, hV3⟩ : ∃ V, V2.setCell ⟨a, 771, none⟩ (.int .i64 ((Y : Int) + 6)) = V := ⟨_, rfl⟩
    have hb4 := hb3.sy ((Y : Int) + 6)
    rw [hV3] at hb4
    obtain ⟨z0, z0'⟩ := hb4.fdown
    obtain ⟨V4, hV4⟩ : ∃ V, V3.setCell ⟨a, 777, none⟩ (.bool true) = V := ⟨_, rfl⟩
    have hb5 := hb4.sdown true
    rw [hV4] at hb5
    obtain ⟨y1, y1'⟩ := hb5.fy
    have HT3 := Lib.hid (show Turn G W V4 a _ by rw [← hV4, ← hV3, ← hV2]; exact ((HT2.out.set (fun _ _ h => h.sx 0) rfl rfl).set (fun _ _ h => h.sy ((Y : Int) + 6)) rfl rfl).set (fun _ _ h => h.sdown true) rfl rfl)
    have HRES := Lib.hid (show d.plainSign 45 = { d with rep := 0, y := min ((Y : Int) + 6) 1048576, down := true, x := 0 } from by
      unfold Dec.plainSign
      rw [if_neg (by omega), if_neg (by omega), if_pos rfl, hY])
    clear hb3 hb4 hb5 hY
    by_cases hF : (1048576 : Int) < (Y : Int) + 6
    · have gF : decide ((1048576 : Int) < (Y : Int) + 6) = true := decide_eq_true hF
      have HM := Lib.hid (show min ((Y : Int) + 6) 1048576 = 1048576 from Int.min_eq_right (Int.le_of_lt hF))
      clear hF
      go_wp2
      all_goals go_end0
      refine ⟨rfl, ?_⟩
      rw [HRES.out, HM.out]
      exact HT3.out.set (fun _ _ h => h.sy 1048576) rfl rfl
    · have gF : decide ((1048576 : Int) < (Y : Int) + 6) = false := decide_eq_false hF
      have HM := Lib.hid (show min ((Y : Int) + 6) 1048576 = (Y : Int) + 6 from Int.min_eq_left (Int.not_lt.1 hF))
      clear hF
      go_wp2
      all_goals go_end0
      refine ⟨rfl, ?_⟩
      rw [HRES.out, HM.out]
      exact HT3.out
  · have eR : ((R : Int) == 0) = false := by simp; exact hR0
    obtain rfl : R = n := by omega
    clear hR hn hR0
    obtain ⟨Y, hY⟩ := nat_of HOK1.out.1.y.1
    have hYb : Y ≤ 1048576 := by have := HOK1.out.1.y.2; omega
    obtain ⟨x0, x0'⟩ := HB2.out.fx
    obtain ⟨V2, hV2⟩ : ∃ V, V1.setCell ⟨a, 770, none⟩ (.int .i64 0) = V := ⟨_, rfl⟩
    have hb3 := HB2.out.sx 0
    rw [hV2] at hb3
    have y0 : V2.cell? ⟨a, 771, none⟩ = some (.int .i64 (Y : Int)) := by have h9 := hb3.fy.1; rw [show ({ d with rep := 0, x := 0 } : Dec).y = (Y : Int) from hY] at h9; exact h9
    have y0' := hb3.fy.2
    have p1 : IntKind.i64.wrap ((Y : Int) + 6) = (Y : Int) + 6 := IntWalk.i64_in _ (by omega)
    obtain ⟨V3, hV3⟩ : ∃ V, V2.setCell ⟨a, 771, none⟩ (.int .i64 ((Y : Int) + 6)) = V := ⟨_, rfl⟩
    have hb4 := hb3.sy ((Y : Int) + 6)
    rw [hV3] at hb4
    obtain ⟨z0, z0'⟩ := hb4.fdown
    obtain ⟨V4, hV4⟩ : ∃ V, V3.setCell ⟨a, 777, none⟩ (.bool true) = V := ⟨_, rfl⟩
    have hb5 := hb4.sdown true
    rw [hV4] at hb5
    obtain ⟨y1, y1'⟩ := hb5.fy
    have HT3 := Lib.hid (show Turn G W V4 a _ by rw [← hV4, ← hV3, ← hV2]; exact ((HT2.out.set (fun _ _ h => h.sx 0) rfl rfl).set (fun _ _ h => h.sy ((Y : Int) + 6)) rfl rfl).set (fun _ _ h => h.sdown true) rfl rfl)
    have HRES := Lib.hid (show d.plainSign 45 = { d with rep := 0, y := min ((Y : Int) + 6) 1048576, down := true, x := 0 } from by
      unfold Dec.plainSign
      rw [if_neg (by omega), if_neg (by omega), if_pos rfl, hY])
    clear hb3 hb4 hb5 hY
    by_cases hF : (1048576 : Int) < (Y : Int) + 6
    · have gF : decide ((1048576 : Int) < (Y : Int) + 6) = true := decide_eq_true hF
      have HM := Lib.hid (show min ((Y : Int) + 6) 1048576 = 1048576 from Int.min_eq_right (Int.le_of_lt hF))
      clear hF
      go_wp2
      all_goals go_end0
      refine ⟨rfl, ?_⟩
      rw [HRES.out, HM.out]
      exact HT3.out.set (fun _ _ h => h.sy 1048576) rfl rfl
    · have gF : decide ((1048576 : Int) < (Y : Int) + 6) = false := decide_eq_false hF
      have HM := Lib.hid (show min ((Y : Int) + 6) 1048576 = (Y : Int) + 6 from Int.min_eq_left (Int.not_lt.1 hF))
      clear hF
      go_wp2
      all_goals go_end0
      refine ⟨rfl, ?_⟩
      rw [HRES.out, HM.out]
      exact HT3.out
set_option maxRecDepth 100000 in
set_option maxHeartbeats 16000000 in
theorem signB_minus (G : Nat → Prop) (d : Dec) (W : World) (a c M : Nat) (hd : DOwn G W a d) (hok : DecOk M d) (hf : d.full = false) (hc : 33 ≤ c ∧ c ≤ 126) (hcmd : d.cmd ≠ 0) (hnd : c < 48 ∨ 57 < c) (h59 : c ≠ 59) (hfu : (d.done d.w.toNat d.h.toNat).full = false) (h45 : c = 45) :
    Calls Try.prog 34 #[.pointer (some ⟨a, 0, none⟩), .int .u8 c] W fun e w' => e = .returned (.tuple #[]) ∧ Turn G W w' a ((d.done d.w.toNat d.h.toNat).plainSign c) := by
  subst h45
  have HDN := Lib.hid (done_any G d W a d.w.toNat d.h.toNat M hd hok.pic hf hok.num hok.cmd)
  have hok1 := done_ok hok hf
  obtain ⟨pv, nv, hb, -⟩ := hd
  obtain ⟨k0, -⟩ := hb.fcmd
  obtain ⟨C, hC⟩ : ∃ C, d.cmd = C := ⟨_, rfl⟩
  rw [hC] at k0 hcmd
  have e0 : (C != 0) = true := by simp; exact hcmd
  obtain ⟨D1, hD1⟩ : ∃ D1, d.done d.w.toNat d.h.toNat = D1 := ⟨_, rfl⟩
  rw [hD1] at hok1 hfu HDN ⊢
  have HOK1 := Lib.hid (And.intro hok1 hfu)
  clear hb hC hok hf hcmd hok1 hfu hD1
  clear hnd h59
  go_enter Try.func34, Try.ntmps34
  go_wp2_with fail
  refine HDN.out.mono ?_
  rintro e w1 ⟨rfl, hT1⟩
  have HT1 := Lib.hid hT1
  clear hT1
  obtain ⟨G1, ⟨pv1, nv1, hb1, hp1, hn1, o1, o2, o3, hG1⟩, hs1, hk1⟩ := HT1.out
  obtain ⟨R, hR⟩ := nat_of HOK1.out.1.rep.1
  have hRb : R ≤ 65535 := by have := HOK1.out.1.rep.2; omega
  have j0 : w1.cell? ⟨a, 783, none⟩ = some (.int .i64 (R : Int)) := by rw [← hR]; exact hb1.frep.1
  have j0' := hb1.frep.2
  obtain ⟨V1, hV1⟩ : ∃ V, w1.setCell ⟨a, 783, none⟩ (.int .i64 0) = V := ⟨_, rfl⟩
  have hb2 : DBlk V1 a { D1 with rep := 0 } pv1 nv1 := by rw [← hV1]; exact hb1.srep 0
  have HT2 := Lib.hid (show Turn G W V1 a { D1 with rep := 0 } by rw [← hV1]; exact HT1.out.set (fun _ _ h => h.srep 0) rfl rfl)
  have HB2 := Lib.hid hb2
  have jf : w1.cell? ⟨a, 778, none⟩ = some (.bool false) := by rw [← HOK1.out.2]; exact hb1.ffull.1
  clear hb1 hp1 hn1 o1 o2 o3 hG1 hs1 hk1 hb2
  obtain ⟨n, hn⟩ : ∃ n, max R 1 = n := ⟨_, rfl⟩
  have HRN := Lib.hid (And.intro hR hn)
  by_cases hR0 : R = 0
  · have eR : ((R : Int) == 0) = true := by simp; exact hR0
    obtain rfl : n = 1 := by omega
    clear hR hn hR0
    obtain ⟨Y, hY⟩ := nat_of HOK1.out.1.y.1
    have hYb : Y ≤ 1048576 := by have := HOK1.out.1.y.2; omega
    obtain ⟨x0, x0'⟩ := HB2.out.fx
    obtain ⟨V2, hV2⟩ : ∃ V, V1.setCell ⟨a, 770, none⟩ (.int .i64 0) = V := ⟨_, rfl⟩
    have hb3 := HB2.out.sx 0
    rw [hV2] at hb3
    have y0 : V2.cell? ⟨a, 771, none⟩ = some (.int .i64 (Y : Int)) := by have h9 := hb3.fy.1; rw [show ({ D1 with rep := 0, x := 0 } : Dec).y = (Y : Int) from hY] at h9; exact h9
    have y0' := hb3.fy.2
    have p1 : IntKind.i64.wrap ((Y : Int) + 6) = (Y : Int) + 6 := IntWalk.i64_in _ (by omega)
    obtain ⟨V3, hV3⟩ : ∃ V, V2.setCell ⟨a, 771, none⟩ (.int .i64 ((Y : Int) + 6)) = V := ⟨_, rfl⟩
    have hb4 := hb3.sy ((Y : Int) + 6)
    rw [hV3] at hb4
    obtain ⟨z0, z0'⟩ := hb4.fdown
    obtain ⟨V4, hV4⟩ : ∃ V, V3.setCell ⟨a, 777, none⟩ (.bool true) = V := ⟨_, rfl⟩
    have hb5 := hb4.sdown true
    rw [hV4] at hb5
    obtain ⟨y1, y1'⟩ := hb5.fy
    have HT3 := Lib.hid (show Turn G W V4 a _ by rw [← hV4, ← hV3, ← hV2]; exact ((HT2.out.set (fun _ _ h => h.sx 0) rfl rfl).set (fun _ _ h => h.sy ((Y : Int) + 6)) rfl rfl).set (fun _ _ h => h.sdown true) rfl rfl)
    have HRES := Lib.hid (show D1.plainSign 45 = { D1 with rep := 0, y := min ((Y : Int) + 6) 1048576, down := true, x := 0 } from by
      unfold Dec.plainSign
      rw [if_neg (by omega), if_neg (by omega), if_pos rfl, hY])
    clear hb3 hb4 hb5 hY
    by_cases hF : (1048576 : Int) < (Y : Int) + 6
    · have gF : decide ((1048576 : Int) < (Y : Int) + 6) = true := decide_eq_true hF
      have HM := Lib.hid (show min ((Y : Int) + 6) 1048576 = 1048576 from Int.min_eq_right (Int.le_of_lt hF))
      clear hF
      go_wp2
      all_goals go_end0
      refine ⟨rfl, ?_⟩
      rw [HRES.out, HM.out]
      exact HT3.out.set (fun _ _ h => h.sy 1048576) rfl rfl
    · have gF : decide ((1048576 : Int) < (Y : Int) + 6) = false := decide_eq_false hF
      have HM := Lib.hid (show min ((Y : Int) + 6) 1048576 = (Y : Int) + 6 from Int.min_eq_left (Int.not_lt.1 hF))
      clear hF
      go_wp2
      all_goals go_end0
      refine ⟨rfl, ?_⟩
      rw [HRES.out, HM.out]
      exact HT3.out
  · have eR : ((R : Int) == 0) = false := by simp; exact hR0
    obtain rfl : R = n := by omega
    clear hR hn hR0
    obtain ⟨Y, hY⟩ := nat_of HOK1.out.1.y.1
    have hYb : Y ≤ 1048576 := by have := HOK1.out.1.y.2; omega
    obtain ⟨x0, x0'⟩ := HB2.out.fx
    obtain ⟨V2, hV2⟩ : ∃ V, V1.setCell ⟨a, 770, none⟩ (.int .i64 0) = V := ⟨_, rfl⟩
    have hb3 := HB2.out.sx 0
    rw [hV2] at hb3
    have y0 : V2.cell? ⟨a, 771, none⟩ = some (.int .i64 (Y : Int)) := by have h9 := hb3.fy.1; rw [show ({ D1 with rep := 0, x := 0 } : Dec).y = (Y : Int) from hY] at h9; exact h9
    have y0' := hb3.fy.2
    have p1 : IntKind.i64.wrap ((Y : Int) + 6) = (Y : Int) + 6 := IntWalk.i64_in _ (by omega)
    obtain ⟨V3, hV3⟩ : ∃ V, V2.setCell ⟨a, 771, none⟩ (.int .i64 ((Y : Int) + 6)) = V := ⟨_, rfl⟩
    have hb4 := hb3.sy ((Y : Int) + 6)
    rw [hV3] at hb4
    obtain ⟨z0, z0'⟩ := hb4.fdown
    obtain ⟨V4, hV4⟩ : ∃ V, V3.setCell ⟨a, 777, none⟩ (.bool true) = V := ⟨_, rfl⟩
    have hb5 := hb4.sdown true
    rw [hV4] at hb5
    obtain ⟨y1, y1'⟩ := hb5.fy
    have HT3 := Lib.hid (show Turn G W V4 a _ by rw [← hV4, ← hV3, ← hV2]; exact ((HT2.out.set (fun _ _ h => h.sx 0) rfl rfl).set (fun _ _ h => h.sy ((Y : Int) + 6)) rfl rfl).set (fun _ _ h => h.sdown true) rfl rfl)
    have HRES := Lib.hid (show D1.plainSign 45 = { D1 with rep := 0, y := min ((Y : Int) + 6) 1048576, down := true, x := 0 } from by
      unfold Dec.plainSign
      rw [if_neg (by omega), if_neg (by omega), if_pos rfl, hY])
    clear hb3 hb4 hb5 hY
    by_cases hF : (1048576 : Int) < (Y : Int) + 6
    · have gF : decide ((1048576 : Int) < (Y : Int) + 6) = true := decide_eq_true hF
      have HM := Lib.hid (show min ((Y : Int) + 6) 1048576 = 1048576 from Int.min_eq_right (Int.le_of_lt hF))
      clear hF
      go_wp2
      all_goals go_end0
      refine ⟨rfl, ?_⟩
      rw [HRES.out, HM.out]
      exact HT3.out.set (fun _ _ h => h.sy 1048576) rfl rfl
    · have gF : decide ((1048576 : Int) < (Y : Int) + 6) = false := decide_eq_false hF
      have HM := Lib.hid (show min ((Y : Int) + 6) 1048576 = (Y : Int) + 6 from Int.min_eq_left (Int.not_lt.1 hF))
      clear hF
      go_wp2
      all_goals go_end0
      refine ⟨rfl, ?_⟩
      rw [HRES.out, HM.out]
      exact HT3.out
set_option maxRecDepth 100000 in
set_option maxHeartbeats 16000000 in
theorem signA_doll (G : Nat → Prop) (d : Dec) (W : World) (a c M : Nat) (hd : DOwn G W a d) (hok : DecOk M d) (hf : d.full = false) (hc : 33 ≤ c ∧ c ≤ 126) (hcmd : d.cmd = 0) (h36 : c = 36) :
    Calls Try.prog 34 #[.pointer (some ⟨a, 0, none⟩), .int .u8 c] W fun e w' => e = .returned (.tuple #[]) ∧ Turn G W w' a (d.plainSign c) := by
  subst h36
  have HT1 := Lib.hid (Turn.refl (w := W) hd)
  have HOK1 := Lib.hid (And.intro hok hf)
  obtain ⟨pv, nv, hb, -⟩ := hd
  have k0 : W.cell? ⟨a, 780, none⟩ = some (.int .u8 0) := by rw [← hcmd]; exact hb.fcmd.1
  clear hb hok hf hcmd
  go_enter Try.func34, Try.ntmps34
  obtain ⟨G1, ⟨pv1, nv1, hb1, hp1, hn1, o1, o2, o3, hG1⟩, hs1, hk1⟩ := HT1.out
  obtain ⟨R, hR⟩ := nat_of HOK1.out.1.rep.1
  have hRb : R ≤ 65535 := by have := HOK1.out.1.rep.2; omega
  have j0 : W.cell? ⟨a, 783, none⟩ = some (.int .i64 (R : Int)) := by rw [← hR]; exact hb1.frep.1
  have j0' := hb1.frep.2
  obtain ⟨V1, hV1⟩ : ∃ V, W.setCell ⟨a, 783, none⟩ (.int .i64 0) = V := ⟨_, rfl⟩
  have hb2 : DBlk V1 a { d with rep := 0 } pv1 nv1 := by rw [← hV1]; exact hb1.srep 0
  have HT2 := Lib.hid (show Turn G W V1 a { d with rep := 0 } by rw [← hV1]; exact HT1.out.set (fun _ _ h => h.srep 0) rfl rfl)
  have HB2 := Lib.hid hb2
  clear hb1 hp1 hn1 o1 o2 o3 hG1 hs1 hk1 hb2
  obtain ⟨n, hn⟩ : ∃ n, max R 1 = n := ⟨_, rfl⟩
  have HRN := Lib.hid (And.intro hR hn)
  by_cases hR0 : R = 0
  · have eR : ((R : Int) == 0) = true := by simp; exact hR0
    obtain rfl : n = 1 := by omega
    clear hR hn hR0
    obtain ⟨x0, x0'⟩ := HB2.out.fx
    have HRES := Lib.hid (show d.plainSign 36 = { d with rep := 0, x := 0 } from by
      unfold Dec.plainSign
      rw [if_neg (by omega), if_neg (by omega), if_neg (by omega), if_pos rfl])
    go_wp2
    all_goals go_end0
    refine ⟨rfl, ?_⟩
    rw [HRES.out]
    exact HT2.out.set (fun _ _ h => h.sx 0) rfl rfl
  · have eR : ((R : Int) == 0) = false := by simp; exact hR0
    obtain rfl : R = n := by omega
    clear hR hn hR0
    obtain ⟨x0, x0'⟩ := HB2.out.fx
    have HRES := Lib.hid (show d.plainSign 36 = { d with rep := 0, x := 0 } from by
      unfold Dec.plainSign
      rw [if_neg (by omega), if_neg (by omega), if_neg (by omega), if_pos rfl])
    go_wp2
    all_goals go_end0
    refine ⟨rfl, ?_⟩
    rw [HRES.out]
    exact HT2.out.set (fun _ _ h => h.sx 0) rfl rfl
set_option maxRecDepth 100000 in
set_option maxHeartbeats 16000000 in
theorem signB_doll (G : Nat → Prop) (d : Dec) (W : World) (a c M : Nat) (hd : DOwn G W a d) (hok : DecOk M d) (hf : d.full = false) (hc : 33 ≤ c ∧ c ≤ 126) (hcmd : d.cmd ≠ 0) (hnd : c < 48 ∨ 57 < c) (h59 : c ≠ 59) (hfu : (d.done d.w.toNat d.h.toNat).full = false) (h36 : c = 36) :
    Calls Try.prog 34 #[.pointer (some ⟨a, 0, none⟩), .int .u8 c] W fun e w' => e = .returned (.tuple #[]) ∧ Turn G W w' a ((d.done d.w.toNat d.h.toNat).plainSign c) := by
  subst h36
  have HDN := Lib.hid (done_any G d W a d.w.toNat d.h.toNat M hd hok.pic hf hok.num hok.cmd)
  have hok1 := done_ok hok hf
  obtain ⟨pv, nv, hb, -⟩ := hd
  obtain ⟨k0, -⟩ := hb.fcmd
  obtain ⟨C, hC⟩ : ∃ C, d.cmd = C := ⟨_, rfl⟩
  rw [hC] at k0 hcmd
  have e0 : (C != 0) = true := by simp; exact hcmd
  obtain ⟨D1, hD1⟩ : ∃ D1, d.done d.w.toNat d.h.toNat = D1 := ⟨_, rfl⟩
  rw [hD1] at hok1 hfu HDN ⊢
  have HOK1 := Lib.hid (And.intro hok1 hfu)
  clear hb hC hok hf hcmd hok1 hfu hD1
  clear hnd h59
  go_enter Try.func34, Try.ntmps34
  go_wp2_with fail
  refine HDN.out.mono ?_
  rintro e w1 ⟨rfl, hT1⟩
  have HT1 := Lib.hid hT1
  clear hT1
  obtain ⟨G1, ⟨pv1, nv1, hb1, hp1, hn1, o1, o2, o3, hG1⟩, hs1, hk1⟩ := HT1.out
  obtain ⟨R, hR⟩ := nat_of HOK1.out.1.rep.1
  have hRb : R ≤ 65535 := by have := HOK1.out.1.rep.2; omega
  have j0 : w1.cell? ⟨a, 783, none⟩ = some (.int .i64 (R : Int)) := by rw [← hR]; exact hb1.frep.1
  have j0' := hb1.frep.2
  obtain ⟨V1, hV1⟩ : ∃ V, w1.setCell ⟨a, 783, none⟩ (.int .i64 0) = V := ⟨_, rfl⟩
  have hb2 : DBlk V1 a { D1 with rep := 0 } pv1 nv1 := by rw [← hV1]; exact hb1.srep 0
  have HT2 := Lib.hid (show Turn G W V1 a { D1 with rep := 0 } by rw [← hV1]; exact HT1.out.set (fun _ _ h => h.srep 0) rfl rfl)
  have HB2 := Lib.hid hb2
  have jf : w1.cell? ⟨a, 778, none⟩ = some (.bool false) := by rw [← HOK1.out.2]; exact hb1.ffull.1
  clear hb1 hp1 hn1 o1 o2 o3 hG1 hs1 hk1 hb2
  obtain ⟨n, hn⟩ : ∃ n, max R 1 = n := ⟨_, rfl⟩
  have HRN := Lib.hid (And.intro hR hn)
  by_cases hR0 : R = 0
  · have eR : ((R : Int) == 0) = true := by simp; exact hR0
    obtain rfl : n = 1 := by omega
    clear hR hn hR0
    obtain ⟨x0, x0'⟩ := HB2.out.fx
    have HRES := Lib.hid (show D1.plainSign 36 = { D1 with rep := 0, x := 0 } from by
      unfold Dec.plainSign
      rw [if_neg (by omega), if_neg (by omega), if_neg (by omega), if_pos rfl])
    go_wp2
    all_goals go_end0
    refine ⟨rfl, ?_⟩
    rw [HRES.out]
    exact HT2.out.set (fun _ _ h => h.sx 0) rfl rfl
  · have eR : ((R : Int) == 0) = false := by simp; exact hR0
    obtain rfl : R = n := by omega
    clear hR hn hR0
    obtain ⟨x0, x0'⟩ := HB2.out.fx
    have HRES := Lib.hid (show D1.plainSign 36 = { D1 with rep := 0, x := 0 } from by
      unfold Dec.plainSign
      rw [if_neg (by omega), if_neg (by omega), if_neg (by omega), if_pos rfl])
    go_wp2
    all_goals go_end0
    refine ⟨rfl, ?_⟩
    rw [HRES.out]
    exact HT2.out.set (fun _ _ h => h.sx 0) rfl rfl
set_option maxRecDepth 100000 in
set_option maxHeartbeats 16000000 in
theorem signA_other (G : Nat → Prop) (d : Dec) (W : World) (a c M : Nat) (hd : DOwn G W a d) (hok : DecOk M d) (hf : d.full = false) (hc : 33 ≤ c ∧ c ≤ 126) (hcmd : d.cmd = 0) (hoth : ¬ 63 ≤ c ∧ c ≠ 33 ∧ c ≠ 35 ∧ c ≠ 34 ∧ c ≠ 45 ∧ c ≠ 36) :
    Calls Try.prog 34 #[.pointer (some ⟨a, 0, none⟩), .int .u8 c] W fun e w' => e = .returned (.tuple #[]) ∧ Turn G W w' a (d.plainSign c) := by
  have HT1 := Lib.hid (Turn.refl (w := W) hd)
  have HOK1 := Lib.hid (And.intro hok hf)
  obtain ⟨pv, nv, hb, -⟩ := hd
  have k0 : W.cell? ⟨a, 780, none⟩ = some (.int .u8 0) := by rw [← hcmd]; exact hb.fcmd.1
  clear hb hok hf hcmd
  go_enter Try.func34, Try.ntmps34
  obtain ⟨G1, ⟨pv1, nv1, hb1, hp1, hn1, o1, o2, o3, hG1⟩, hs1, hk1⟩ := HT1.out
  obtain ⟨R, hR⟩ := nat_of HOK1.out.1.rep.1
  have hRb : R ≤ 65535 := by have := HOK1.out.1.rep.2; omega
  have j0 : W.cell? ⟨a, 783, none⟩ = some (.int .i64 (R : Int)) := by rw [← hR]; exact hb1.frep.1
  have j0' := hb1.frep.2
  obtain ⟨V1, hV1⟩ : ∃ V, W.setCell ⟨a, 783, none⟩ (.int .i64 0) = V := ⟨_, rfl⟩
  have hb2 : DBlk V1 a { d with rep := 0 } pv1 nv1 := by rw [← hV1]; exact hb1.srep 0
  have HT2 := Lib.hid (show Turn G W V1 a { d with rep := 0 } by rw [← hV1]; exact HT1.out.set (fun _ _ h => h.srep 0) rfl rfl)
  have HB2 := Lib.hid hb2
  clear hb1 hp1 hn1 o1 o2 o3 hG1 hs1 hk1 hb2
  obtain ⟨n, hn⟩ : ∃ n, max R 1 = n := ⟨_, rfl⟩
  have HRN := Lib.hid (And.intro hR hn)
  by_cases hR0 : R = 0
  · have eR : ((R : Int) == 0) = true := by simp; exact hR0
    obtain rfl : n = 1 := by omega
    clear hR hn hR0
    have g63 : decide (63 ≤ c) = false := decide_eq_false hoth.1
    have g63' : decide ((63 : Int) ≤ (c : Int)) = false := decide_eq_false (by omega)
    have e1 : ((c : Int) == 33) = false := by simp; omega
    have e2 : ((c : Int) == 35) = false := by simp; omega
    have e3 : ((c : Int) == 34) = false := by simp; omega
    have e4 : ((c : Int) == 45) = false := by simp; omega
    have e5 : ((c : Int) == 36) = false := by simp; omega
    have HRES := Lib.hid (show d.plainSign c = { d with rep := 0 } from by
      unfold Dec.plainSign
      rw [if_neg hoth.1, if_neg (by omega), if_neg (by omega), if_neg (by omega)])
    go_wp2
    all_goals go_end0
    refine ⟨rfl, ?_⟩
    rw [HRES.out]
    exact HT2.out
  · have eR : ((R : Int) == 0) = false := by simp; exact hR0
    obtain rfl : R = n := by omega
    clear hR hn hR0
    have g63 : decide (63 ≤ c) = false := decide_eq_false hoth.1
    have g63' : decide ((63 : Int) ≤ (c : Int)) = false := decide_eq_false (by omega)
    have e1 : ((c : Int) == 33) = false := by simp; omega
    have e2 : ((c : Int) == 35) = false := by simp; omega
    have e3 : ((c : Int) == 34) = false := by simp; omega
    have e4 : ((c : Int) == 45) = false := by simp; omega
    have e5 : ((c : Int) == 36) = false := by simp; omega
    have HRES := Lib.hid (show d.plainSign c = { d with rep := 0 } from by
      unfold Dec.plainSign
      rw [if_neg hoth.1, if_neg (by omega), if_neg (by omega), if_neg (by omega)])
    go_wp2
    all_goals go_end0
    refine ⟨rfl, ?_⟩
    rw [HRES.out]
    exact HT2.out
set_option maxRecDepth 100000 in
set_option maxHeartbeats 16000000 in
theorem signB_other (G : Nat → Prop) (d : Dec) (W : World) (a c M : Nat) (hd : DOwn G W a d) (hok : DecOk M d) (hf : d.full = false) (hc : 33 ≤ c ∧ c ≤ 126) (hcmd : d.cmd ≠ 0) (hnd : c < 48 ∨ 57 < c) (h59 : c ≠ 59) (hfu : (d.done d.w.toNat d.h.toNat).full = false) (hoth : ¬ 63 ≤ c ∧ c ≠ 33 ∧ c ≠ 35 ∧ c ≠ 34 ∧ c ≠ 45 ∧ c ≠ 36) :
    Calls Try.prog 34 #[.pointer (some ⟨a, 0, none⟩), .int .u8 c] W fun e w' => e = .returned (.tuple #[]) ∧ Turn G W w' a ((d.done d.w.toNat d.h.toNat).plainSign c) := by
  have HDN := Lib.hid (done_any G d W a d.w.toNat d.h.toNat M hd hok.pic hf hok.num hok.cmd)
  have hok1 := done_ok hok hf
  obtain ⟨pv, nv, hb, -⟩ := hd
  obtain ⟨k0, -⟩ := hb.fcmd
  obtain ⟨C, hC⟩ : ∃ C, d.cmd = C := ⟨_, rfl⟩
  rw [hC] at k0 hcmd
  have e0 : (C != 0) = true := by simp; exact hcmd
  obtain ⟨D1, hD1⟩ : ∃ D1, d.done d.w.toNat d.h.toNat = D1 := ⟨_, rfl⟩
  rw [hD1] at hok1 hfu HDN ⊢
  have HOK1 := Lib.hid (And.intro hok1 hfu)
  have h59' : ((c : Int) == 59) = false := by simp; omega
  clear hb hC hok hf hcmd hok1 hfu hD1
  rcases hnd with hnd | hnd
  · have g1 : decide (48 ≤ c) = false := decide_eq_false (by omega)
    go_enter Try.func34, Try.ntmps34
    go_wp2_with fail
    refine HDN.out.mono ?_
    rintro e w1 ⟨rfl, hT1⟩
    have HT1 := Lib.hid hT1
    clear hT1
    obtain ⟨G1, ⟨pv1, nv1, hb1, hp1, hn1, o1, o2, o3, hG1⟩, hs1, hk1⟩ := HT1.out
    obtain ⟨R, hR⟩ := nat_of HOK1.out.1.rep.1
    have hRb : R ≤ 65535 := by have := HOK1.out.1.rep.2; omega
    have j0 : w1.cell? ⟨a, 783, none⟩ = some (.int .i64 (R : Int)) := by rw [← hR]; exact hb1.frep.1
    have j0' := hb1.frep.2
    obtain ⟨V1, hV1⟩ : ∃ V, w1.setCell ⟨a, 783, none⟩ (.int .i64 0) = V := ⟨_, rfl⟩
    have hb2 : DBlk V1 a { D1 with rep := 0 } pv1 nv1 := by rw [← hV1]; exact hb1.srep 0
    have HT2 := Lib.hid (show Turn G W V1 a { D1 with rep := 0 } by rw [← hV1]; exact HT1.out.set (fun _ _ h => h.srep 0) rfl rfl)
    have HB2 := Lib.hid hb2
    have jf : w1.cell? ⟨a, 778, none⟩ = some (.bool false) := by rw [← HOK1.out.2]; exact hb1.ffull.1
    clear hb1 hp1 hn1 o1 o2 o3 hG1 hs1 hk1 hb2
    obtain ⟨n, hn⟩ : ∃ n, max R 1 = n := ⟨_, rfl⟩
    have HRN := Lib.hid (And.intro hR hn)
    by_cases hR0 : R = 0
    · have eR : ((R : Int) == 0) = true := by simp; exact hR0
      obtain rfl : n = 1 := by omega
      clear hR hn hR0
      have g63 : decide (63 ≤ c) = false := decide_eq_false hoth.1
      have g63' : decide ((63 : Int) ≤ (c : Int)) = false := decide_eq_false (by omega)
      have e1 : ((c : Int) == 33) = false := by simp; omega
      have e2 : ((c : Int) == 35) = false := by simp; omega
      have e3 : ((c : Int) == 34) = false := by simp; omega
      have e4 : ((c : Int) == 45) = false := by simp; omega
      have e5 : ((c : Int) == 36) = false := by simp; omega
      have HRES := Lib.hid (show D1.plainSign c = { D1 with rep := 0 } from by
        unfold Dec.plainSign
        rw [if_neg hoth.1, if_neg (by omega), if_neg (by omega), if_neg (by omega)])
      go_wp2
      all_goals go_end0
      refine ⟨rfl, ?_⟩
      rw [HRES.out]
      exact HT2.out
    · have eR : ((R : Int) == 0) = false := by simp; exact hR0
      obtain rfl : R = n := by omega
      clear hR hn hR0
      have g63 : decide (63 ≤ c) = false := decide_eq_false hoth.1
      have g63' : decide ((63 : Int) ≤ (c : Int)) = false := decide_eq_false (by omega)
      have e1 : ((c : Int) == 33) = false := by simp; omega
      have e2 : ((c : Int) == 35) = false := by simp; omega
      have e3 : ((c : Int) == 34) = false := by simp; omega
      have e4 : ((c : Int) == 45) = false := by simp; omega
      have e5 : ((c : Int) == 36) = false := by simp; omega
      have HRES := Lib.hid (show D1.plainSign c = { D1 with rep := 0 } from by
        unfold Dec.plainSign
        rw [if_neg hoth.1, if_neg (by omega), if_neg (by omega), if_neg (by omega)])
      go_wp2
      all_goals go_end0
      refine ⟨rfl, ?_⟩
      rw [HRES.out]
      exact HT2.out
  · have g1 : decide (48 ≤ c) = true := decide_eq_true (by omega)
    have g2 : decide (c ≤ 57) = false := decide_eq_false (by omega)
    go_enter Try.func34, Try.ntmps34
    go_wp2_with fail
    refine HDN.out.mono ?_
    rintro e w1 ⟨rfl, hT1⟩
    have HT1 := Lib.hid hT1
    clear hT1
    obtain ⟨G1, ⟨pv1, nv1, hb1, hp1, hn1, o1, o2, o3, hG1⟩, hs1, hk1⟩ := HT1.out
    obtain ⟨R, hR⟩ := nat_of HOK1.out.1.rep.1
    have hRb : R ≤ 65535 := by have := HOK1.out.1.rep.2; omega
    have j0 : w1.cell? ⟨a, 783, none⟩ = some (.int .i64 (R : Int)) := by rw [← hR]; exact hb1.frep.1
    have j0' := hb1.frep.2
    obtain ⟨V1, hV1⟩ : ∃ V, w1.setCell ⟨a, 783, none⟩ (.int .i64 0) = V := ⟨_, rfl⟩
    have hb2 : DBlk V1 a { D1 with rep := 0 } pv1 nv1 := by rw [← hV1]; exact hb1.srep 0
    have HT2 := Lib.hid (show Turn G W V1 a { D1 with rep := 0 } by rw [← hV1]; exact HT1.out.set (fun _ _ h => h.srep 0) rfl rfl)
    have HB2 := Lib.hid hb2
    have jf : w1.cell? ⟨a, 778, none⟩ = some (.bool false) := by rw [← HOK1.out.2]; exact hb1.ffull.1
    clear hb1 hp1 hn1 o1 o2 o3 hG1 hs1 hk1 hb2
    obtain ⟨n, hn⟩ : ∃ n, max R 1 = n := ⟨_, rfl⟩
    have HRN := Lib.hid (And.intro hR hn)
    by_cases hR0 : R = 0
    · have eR : ((R : Int) == 0) = true := by simp; exact hR0
      obtain rfl : n = 1 := by omega
      clear hR hn hR0
      have g63 : decide (63 ≤ c) = false := decide_eq_false hoth.1
      have g63' : decide ((63 : Int) ≤ (c : Int)) = false := decide_eq_false (by omega)
      have e1 : ((c : Int) == 33) = false := by simp; omega
      have e2 : ((c : Int) == 35) = false := by simp; omega
      have e3 : ((c : Int) == 34) = false := by simp; omega
      have e4 : ((c : Int) == 45) = false := by simp; omega
      have e5 : ((c : Int) == 36) = false := by simp; omega
      have HRES := Lib.hid (show D1.plainSign c = { D1 with rep := 0 } from by
        unfold Dec.plainSign
        rw [if_neg hoth.1, if_neg (by omega), if_neg (by omega), if_neg (by omega)])
      go_wp2
      all_goals go_end0
      refine ⟨rfl, ?_⟩
      rw [HRES.out]
      exact HT2.out
    · have eR : ((R : Int) == 0) = false := by simp; exact hR0
      obtain rfl : R = n := by omega
      clear hR hn hR0
      have g63 : decide (63 ≤ c) = false := decide_eq_false hoth.1
      have g63' : decide ((63 : Int) ≤ (c : Int)) = false := decide_eq_false (by omega)
      have e1 : ((c : Int) == 33) = false := by simp; omega
      have e2 : ((c : Int) == 35) = false := by simp; omega
      have e3 : ((c : Int) == 34) = false := by simp; omega
      have e4 : ((c : Int) == 45) = false := by simp; omega
      have e5 : ((c : Int) == 36) = false := by simp; omega
      have HRES := Lib.hid (show D1.plainSign c = { D1 with rep := 0 } from by
        unfold Dec.plainSign
        rw [if_neg hoth.1, if_neg (by omega), if_neg (by omega), if_neg (by omega)])
      go_wp2
      all_goals go_end0
      refine ⟨rfl, ?_⟩
      rw [HRES.out]
      exact HT2.out
set_option maxRecDepth 100000 in
set_option maxHeartbeats 16000000 in
theorem signA_cmd33 (G : Nat → Prop) (d : Dec) (W : World) (a c M : Nat) (hd : DOwn G W a d) (hok : DecOk M d) (hf : d.full = false) (hc : 33 ≤ c ∧ c ≤ 126) (hcmd : d.cmd = 0) (hk : c = 33) :
    Calls Try.prog 34 #[.pointer (some ⟨a, 0, none⟩), .int .u8 c] W fun e w' => e = .returned (.tuple #[]) ∧ Turn G W w' a (d.plainSign c) := by
  subst hk
  have HT1 := Lib.hid (Turn.refl (w := W) hd)
  have HOK1 := Lib.hid (And.intro hok hf)
  obtain ⟨pv, nv, hb, -⟩ := hd
  have k0 : W.cell? ⟨a, 780, none⟩ = some (.int .u8 0) := by rw [← hcmd]; exact hb.fcmd.1
  clear hb hok hf hcmd
  go_enter Try.func34, Try.ntmps34
  obtain ⟨G1, ⟨pv1, nv1, hb1, hp1, hn1, o1, o2, o3, hG1⟩, hs1, hk1⟩ := HT1.out
  obtain ⟨R, hR⟩ := nat_of HOK1.out.1.rep.1
  have hRb : R ≤ 65535 := by have := HOK1.out.1.rep.2; omega
  have j0 : W.cell? ⟨a, 783, none⟩ = some (.int .i64 (R : Int)) := by rw [← hR]; exact hb1.frep.1
  have j0' := hb1.frep.2
  obtain ⟨V1, hV1⟩ : ∃ V, W.setCell ⟨a, 783, none⟩ (.int .i64 0) = V := ⟨_, rfl⟩
  have hb2 : DBlk V1 a { d with rep := 0 } pv1 nv1 := by rw [← hV1]; exact hb1.srep 0
  have HT2 := Lib.hid (show Turn G W V1 a { d with rep := 0 } by rw [← hV1]; exact HT1.out.set (fun _ _ h => h.srep 0) rfl rfl)
  have HB2 := Lib.hid hb2
  clear hb1 hp1 hn1 o1 o2 o3 hG1 hs1 hk1 hb2
  obtain ⟨n, hn⟩ : ∃ n, max R 1 = n := ⟨_, rfl⟩
  have HRN := Lib.hid (And.intro hR hn)
  by_cases hR0 : R = 0
  · have eR : ((R : Int) == 0) = true := by simp; exact hR0
    obtain rfl : n = 1 := by omega
    clear hR hn hR0
    obtain ⟨u0, u0'⟩ := HB2.out.fcmd
    obtain ⟨U1, hU1⟩ : ∃ U, V1.setCell ⟨a, 780, none⟩ (.int .u8 33) = U := ⟨_, rfl⟩
    have hb4 := HB2.out.scmd (33 : Int)
    rw [hU1] at hb4
    obtain ⟨v1, v1'⟩ := hb4.fn
    obtain ⟨U2, hU2⟩ : ∃ U, U1.setCell ⟨a, 781, none⟩ (.slice none 0 0) = U := ⟨_, rfl⟩
    have hb5 := hb4.sn (.slice none 0 0) []
    rw [hU2] at hb5
    obtain ⟨v2, v2'⟩ := hb5.fv
    have HT5 := Lib.hid (show Turn G W U2 a { d with rep := 0, cmd := (33 : Int), n := [] } by rw [← hU2, ← hU1]; exact Turn.nilN (HT2.out.set (fun _ _ h => h.scmd (33 : Int)) rfl rfl))
    have HRES := Lib.hid (show d.plainSign 33 = { d with rep := 0, cmd := (33 : Int), n := [], v := 0 } from by
      unfold Dec.plainSign
      rw [if_neg (by omega), if_pos (by omega)]; rfl)
    clear hb4 hb5
    go_wp2
    all_goals go_end0
    refine ⟨rfl, ?_⟩
    rw [HRES.out]
    exact HT5.out.set (fun _ _ h => h.sv 0) rfl rfl
  · have eR : ((R : Int) == 0) = false := by simp; exact hR0
    obtain rfl : R = n := by omega
    clear hR hn hR0
    obtain ⟨u0, u0'⟩ := HB2.out.fcmd
    obtain ⟨U1, hU1⟩ : ∃ U, V1.setCell ⟨a, 780, none⟩ (.int .u8 33) = U := ⟨_, rfl⟩
    have hb4 := HB2.out.scmd (33 : Int)
    rw [hU1] at hb4
    obtain ⟨v1, v1'⟩ := hb4.fn
    obtain ⟨U2, hU2⟩ : ∃ U, U1.setCell ⟨a, 781, none⟩ (.slice none 0 0) = U := ⟨_, rfl⟩
    have hb5 := hb4.sn (.slice none 0 0) []
    rw [hU2] at hb5
    obtain ⟨v2, v2'⟩ := hb5.fv
    have HT5 := Lib.hid (show Turn G W U2 a { d with rep := 0, cmd := (33 : Int), n := [] } by rw [← hU2, ← hU1]; exact Turn.nilN (HT2.out.set (fun _ _ h => h.scmd (33 : Int)) rfl rfl))
    have HRES := Lib.hid (show d.plainSign 33 = { d with rep := 0, cmd := (33 : Int), n := [], v := 0 } from by
      unfold Dec.plainSign
      rw [if_neg (by omega), if_pos (by omega)]; rfl)
    clear hb4 hb5
    go_wp2
    all_goals go_end0
    refine ⟨rfl, ?_⟩
    rw [HRES.out]
    exact HT5.out.set (fun _ _ h => h.sv 0) rfl rfl
set_option maxRecDepth 100000 in
set_option maxHeartbeats 16000000 in
theorem signB_cmd33 (G : Nat → Prop) (d : Dec) (W : World) (a c M : Nat) (hd : DOwn G W a d) (hok : DecOk M d) (hf : d.full = false) (hc : 33 ≤ c ∧ c ≤ 126) (hcmd : d.cmd ≠ 0) (hnd : c < 48 ∨ 57 < c) (h59 : c ≠ 59) (hfu : (d.done d.w.toNat d.h.toNat).full = false) (hk : c = 33) :
    Calls Try.prog 34 #[.pointer (some ⟨a, 0, none⟩), .int .u8 c] W fun e w' => e = .returned (.tuple #[]) ∧ Turn G W w' a ((d.done d.w.toNat d.h.toNat).plainSign c) := by
  subst hk
  have HDN := Lib.hid (done_any G d W a d.w.toNat d.h.toNat M hd hok.pic hf hok.num hok.cmd)
  have hok1 := done_ok hok hf
  obtain ⟨pv, nv, hb, -⟩ := hd
  obtain ⟨k0, -⟩ := hb.fcmd
  obtain ⟨C, hC⟩ : ∃ C, d.cmd = C := ⟨_, rfl⟩
  rw [hC] at k0 hcmd
  have e0 : (C != 0) = true := by simp; exact hcmd
  obtain ⟨D1, hD1⟩ : ∃ D1, d.done d.w.toNat d.h.toNat = D1 := ⟨_, rfl⟩
  rw [hD1] at hok1 hfu HDN ⊢
  have HOK1 := Lib.hid (And.intro hok1 hfu)
  clear hb hC hok hf hcmd hok1 hfu hD1
  clear hnd h59
  go_enter Try.func34, Try.ntmps34
  go_wp2_with fail
  refine HDN.out.mono ?_
  rintro e w1 ⟨rfl, hT1⟩
  have HT1 := Lib.hid hT1
  clear hT1
  obtain ⟨G1, ⟨pv1, nv1, hb1, hp1, hn1, o1, o2, o3, hG1⟩, hs1, hk1⟩ := HT1.out
  obtain ⟨R, hR⟩ := nat_of HOK1.out.1.rep.1
  have hRb : R ≤ 65535 := by have := HOK1.out.1.rep.2; omega
  have j0 : w1.cell? ⟨a, 783, none⟩ = some (.int .i64 (R : Int)) := by rw [← hR]; exact hb1.frep.1
  have j0' := hb1.frep.2
  obtain ⟨V1, hV1⟩ : ∃ V, w1.setCell ⟨a, 783, none⟩ (.int .i64 0) = V := ⟨_, rfl⟩
  have hb2 : DBlk V1 a { D1 with rep := 0 } pv1 nv1 := by rw [← hV1]; exact hb1.srep 0
  have HT2 := Lib.hid (show Turn G W V1 a { D1 with rep := 0 } by rw [← hV1]; exact HT1.out.set (fun _ _ h => h.srep 0) rfl rfl)
  have HB2 := Lib.hid hb2
  have jf : w1.cell? ⟨a, 778, none⟩ = some (.bool false) := by rw [← HOK1.out.2]; exact hb1.ffull.1
  clear hb1 hp1 hn1 o1 o2 o3 hG1 hs1 hk1 hb2
  obtain ⟨n, hn⟩ : ∃ n, max R 1 = n := ⟨_, rfl⟩
  have HRN := Lib.hid (And.intro hR hn)
  by_cases hR0 : R = 0
  · have eR : ((R : Int) == 0) = true := by simp; exact hR0
    obtain rfl : n = 1 := by omega
    clear hR hn hR0
    obtain ⟨u0, u0'⟩ := HB2.out.fcmd
    obtain ⟨U1, hU1⟩ : ∃ U, V1.setCell ⟨a, 780, none⟩ (.int .u8 33) = U := ⟨_, rfl⟩
    have hb4 := HB2.out.scmd (33 : Int)
    rw [hU1] at hb4
    obtain ⟨v1, v1'⟩ := hb4.fn
    obtain ⟨U2, hU2⟩ : ∃ U, U1.setCell ⟨a, 781, none⟩ (.slice none 0 0) = U := ⟨_, rfl⟩
    have hb5 := hb4.sn (.slice none 0 0) []
    rw [hU2] at hb5
    obtain ⟨v2, v2'⟩ := hb5.fv
    have HT5 := Lib.hid (show Turn G W U2 a { D1 with rep := 0, cmd := (33 : Int), n := [] } by rw [← hU2, ← hU1]; exact Turn.nilN (HT2.out.set (fun _ _ h => h.scmd (33 : Int)) rfl rfl))
    have HRES := Lib.hid (show D1.plainSign 33 = { D1 with rep := 0, cmd := (33 : Int), n := [], v := 0 } from by
      unfold Dec.plainSign
      rw [if_neg (by omega), if_pos (by omega)]; rfl)
    clear hb4 hb5
    go_wp2
    all_goals go_end0
    refine ⟨rfl, ?_⟩
    rw [HRES.out]
    exact HT5.out.set (fun _ _ h => h.sv 0) rfl rfl
  · have eR : ((R : Int) == 0) = false := by simp; exact hR0
    obtain rfl : R = n := by omega
    clear hR hn hR0
    obtain ⟨u0, u0'⟩ := HB2.out.fcmd
    obtain ⟨U1, hU1⟩ : ∃ U, V1.setCell ⟨a, 780, none⟩ (.int .u8 33) = U := ⟨_, rfl⟩
    have hb4 := HB2.out.scmd (33 : Int)
    rw [hU1] at hb4
    obtain ⟨v1, v1'⟩ := hb4.fn
    obtain ⟨U2, hU2⟩ : ∃ U, U1.setCell ⟨a, 781, none⟩ (.slice none 0 0) = U := ⟨_, rfl⟩
    have hb5 := hb4.sn (.slice none 0 0) []
    rw [hU2] at hb5
    obtain ⟨v2, v2'⟩ := hb5.fv
    have HT5 := Lib.hid (show Turn G W U2 a { D1 with rep := 0, cmd := (33 : Int), n := [] } by rw [← hU2, ← hU1]; exact Turn.nilN (HT2.out.set (fun _ _ h => h.scmd (33 : Int)) rfl rfl))
    have HRES := Lib.hid (show D1.plainSign 33 = { D1 with rep := 0, cmd := (33 : Int), n := [], v := 0 } from by
      unfold Dec.plainSign
      rw [if_neg (by omega), if_pos (by omega)]; rfl)
    clear hb4 hb5
    go_wp2
    all_goals go_end0
    refine ⟨rfl, ?_⟩
    rw [HRES.out]
    exact HT5.out.set (fun _ _ h => h.sv 0) rfl rfl
set_option maxRecDepth 100000 in
set_option maxHeartbeats 16000000 in
theorem signA_cmd34 (G : Nat → Prop) (d : Dec) (W : World) (a c M : Nat) (hd : DOwn G W a d) (hok : DecOk M d) (hf : d.full = false) (hc : 33 ≤ c ∧ c ≤ 126) (hcmd : d.cmd = 0) (hk : c = 34) :
    Calls Try.prog 34 #[.pointer (some ⟨a, 0, none⟩), .int .u8 c] W fun e w' => e = .returned (.tuple #[]) ∧ Turn G W w' a (d.plainSign c) := by
  subst hk
  have HT1 := Lib.hid (Turn.refl (w := W) hd)
  have HOK1 := Lib.hid (And.intro hok hf)
  obtain ⟨pv, nv, hb, -⟩ := hd
  have k0 : W.cell? ⟨a, 780, none⟩ = some (.int .u8 0) := by rw [← hcmd]; exact hb.fcmd.1
  clear hb hok hf hcmd
  go_enter Try.func34, Try.ntmps34
  obtain ⟨G1, ⟨pv1, nv1, hb1, hp1, hn1, o1, o2, o3, hG1⟩, hs1, hk1⟩ := HT1.out
  obtain ⟨R, hR⟩ := nat_of HOK1.out.1.rep.1
  have hRb : R ≤ 65535 := by have := HOK1.out.1.rep.2; omega
  have j0 : W.cell? ⟨a, 783, none⟩ = some (.int .i64 (R : Int)) := by rw [← hR]; exact hb1.frep.1
  have j0' := hb1.frep.2
  obtain ⟨V1, hV1⟩ : ∃ V, W.setCell ⟨a, 783, none⟩ (.int .i64 0) = V := ⟨_, rfl⟩
  have hb2 : DBlk V1 a { d with rep := 0 } pv1 nv1 := by rw [← hV1]; exact hb1.srep 0
  have HT2 := Lib.hid (show Turn G W V1 a { d with rep := 0 } by rw [← hV1]; exact HT1.out.set (fun _ _ h => h.srep 0) rfl rfl)
  have HB2 := Lib.hid hb2
  clear hb1 hp1 hn1 o1 o2 o3 hG1 hs1 hk1 hb2
  obtain ⟨n, hn⟩ : ∃ n, max R 1 = n := ⟨_, rfl⟩
  have HRN := Lib.hid (And.intro hR hn)
  by_cases hR0 : R = 0
  · have eR : ((R : Int) == 0) = true := by simp; exact hR0
    obtain rfl : n = 1 := by omega
    clear hR hn hR0
    obtain ⟨u0, u0'⟩ := HB2.out.fcmd
    obtain ⟨U1, hU1⟩ : ∃ U, V1.setCell ⟨a, 780, none⟩ (.int .u8 34) = U := ⟨_, rfl⟩
    have hb4 := HB2.out.scmd (34 : Int)
    rw [hU1] at hb4
    obtain ⟨v1, v1'⟩ := hb4.fn
    obtain ⟨U2, hU2⟩ : ∃ U, U1.setCell ⟨a, 781, none⟩ (.slice none 0 0) = U := ⟨_, rfl⟩
    have hb5 := hb4.sn (.slice none 0 0) []
    rw [hU2] at hb5
    obtain ⟨v2, v2'⟩ := hb5.fv
    have HT5 := Lib.hid (show Turn G W U2 a { d with rep := 0, cmd := (34 : Int), n := [] } by rw [← hU2, ← hU1]; exact Turn.nilN (HT2.out.set (fun _ _ h => h.scmd (34 : Int)) rfl rfl))
    have HRES := Lib.hid (show d.plainSign 34 = { d with rep := 0, cmd := (34 : Int), n := [], v := 0 } from by
      unfold Dec.plainSign
      rw [if_neg (by omega), if_pos (by omega)]; rfl)
    clear hb4 hb5
    go_wp2
    all_goals go_end0
    refine ⟨rfl, ?_⟩
    rw [HRES.out]
    exact HT5.out.set (fun _ _ h => h.sv 0) rfl rfl
  · have eR : ((R : Int) == 0) = false := by simp; exact hR0
    obtain rfl : R = n := by omega
    clear hR hn hR0
    obtain ⟨u0, u0'⟩ := HB2.out.fcmd
    obtain ⟨U1, hU1⟩ : ∃ U, V1.setCell ⟨a, 780, none⟩ (.int .u8 34) = U := ⟨_, rfl⟩
    have hb4 := HB2.out.scmd (34 : Int)
    rw [hU1] at hb4
    obtain ⟨v1, v1'⟩ := hb4.fn
    obtain ⟨U2, hU2⟩ : ∃ U, U1.setCell ⟨a, 781, none⟩ (.slice none 0 0) = U := ⟨_, rfl⟩
    have hb5 := hb4.sn (.slice none 0 0) []
    rw [hU2] at hb5
    obtain ⟨v2, v2'⟩ := hb5.fv
    have HT5 := Lib.hid (show Turn G W U2 a { d with rep := 0, cmd := (34 : Int), n := [] } by rw [← hU2, ← hU1]; exact Turn.nilN (HT2.out.set (fun _ _ h => h.scmd (34 : Int)) rfl rfl))
    have HRES := Lib.hid (show d.plainSign 34 = { d with rep := 0, cmd := (34 : Int), n := [], v := 0 } from by
      unfold Dec.plainSign
      rw [if_neg (by omega), if_pos (by omega)]; rfl)
    clear hb4 hb5
    go_wp2
    all_goals go_end0
    refine ⟨rfl, ?_⟩
    rw [HRES.out]
    exact HT5.out.set (fun _ _ h => h.sv 0) rfl rfl
set_option maxRecDepth 100000 in
set_option maxHeartbeats 16000000 in
theorem signB_cmd34 (G : Nat → Prop) (d : Dec) (W : World) (a c M : Nat) (hd : DOwn G W a d) (hok : DecOk M d) (hf : d.full = false) (hc : 33 ≤ c ∧ c ≤ 126) (hcmd : d.cmd ≠ 0) (hnd : c < 48 ∨ 57 < c) (h59 : c ≠ 59) (hfu : (d.done d.w.toNat d.h.toNat).full = false) (hk : c = 34) :
    Calls Try.prog 34 #[.pointer (some ⟨a, 0, none⟩), .int .u8 c] W fun e w' => e = .returned (.tuple #[]) ∧ Turn G W w' a ((d.done d.w.toNat d.h.toNat).plainSign c) := by
  subst hk
  have HDN := Lib.hid (done_any G d W a d.w.toNat d.h.toNat M hd hok.pic hf hok.num hok.cmd)
  have hok1 := done_ok hok hf
  obtain ⟨pv, nv, hb, -⟩ := hd
  obtain ⟨k0, -⟩ := hb.fcmd
  obtain ⟨C, hC⟩ : ∃ C, d.cmd = C := ⟨_, rfl⟩
  rw [hC] at k0 hcmd
  have e0 : (C != 0) = true := by simp; exact hcmd
  obtain ⟨D1, hD1⟩ : ∃ D1, d.done d.w.toNat d.h.toNat = D1 := ⟨_, rfl⟩
  rw [hD1] at hok1 hfu HDN ⊢
  have HOK1 := Lib.hid (And.intro hok1 hfu)
  clear hb hC hok hf hcmd hok1 hfu hD1
  clear hnd h59
  go_enter Try.func34, Try.ntmps34
  go_wp2_with fail
  refine HDN.out.mono ?_
  rintro e w1 ⟨rfl, hT1⟩
  have HT1 := Lib.hid hT1
  clear hT1
  obtain ⟨G1, ⟨pv1, nv1, hb1, hp1, hn1, o1, o2, o3, hG1⟩, hs1, hk1⟩ := HT1.out
  obtain ⟨R, hR⟩ := nat_of HOK1.out.1.rep.1
  have hRb : R ≤ 65535 := by have := HOK1.out.1.rep.2; omega
  have j0 : w1.cell? ⟨a, 783, none⟩ = some (.int .i64 (R : Int)) := by rw [← hR]; exact hb1.frep.1
  have j0' := hb1.frep.2
  obtain ⟨V1, hV1⟩ : ∃ V, w1.setCell ⟨a, 783, none⟩ (.int .i64 0) = V := ⟨_, rfl⟩
  have hb2 : DBlk V1 a { D1 with rep := 0 } pv1 nv1 := by rw [← hV1]; exact hb1.srep 0
  have HT2 := Lib.hid (show Turn G W V1 a { D1 with rep := 0 } by rw [← hV1]; exact HT1.out.set (fun _ _ h => h.srep 0) rfl rfl)
  have HB2 := Lib.hid hb2
  have jf : w1.cell? ⟨a, 778, none⟩ = some (.bool false) := by rw [← HOK1.out.2]; exact hb1.ffull.1
  clear hb1 hp1 hn1 o1 o2 o3 hG1 hs1 hk1 hb2
  obtain ⟨n, hn⟩ : ∃ n, max R 1 = n := ⟨_, rfl⟩
  have HRN := Lib.hid (And.intro hR hn)
  by_cases hR0 : R = 0
  · have eR : ((R : Int) == 0) = true := by simp; exact hR0
    obtain rfl : n = 1 := by omega
    clear hR hn hR0
    obtain ⟨u0, u0'⟩ := HB2.out.fcmd
    obtain ⟨U1, hU1⟩ : ∃ U, V1.setCell ⟨a, 780, none⟩ (.int .u8 34) = U := ⟨_, rfl⟩
    have hb4 := HB2.out.scmd (34 : Int)
    rw [hU1] at hb4
    obtain ⟨v1, v1'⟩ := hb4.fn
    obtain ⟨U2, hU2⟩ : ∃ U, U1.setCell ⟨a, 781, none⟩ (.slice none 0 0) = U := ⟨_, rfl⟩
    have hb5 := hb4.sn (.slice none 0 0) []
    rw [hU2] at hb5
    obtain ⟨v2, v2'⟩ := hb5.fv
    have HT5 := Lib.hid (show Turn G W U2 a { D1 with rep := 0, cmd := (34 : Int), n := [] } by rw [← hU2, ← hU1]; exact Turn.nilN (HT2.out.set (fun _ _ h => h.scmd (34 : Int)) rfl rfl))
    have HRES := Lib.hid (show D1.plainSign 34 = { D1 with rep := 0, cmd := (34 : Int), n := [], v := 0 } from by
      unfold Dec.plainSign
      rw [if_neg (by omega), if_pos (by omega)]; rfl)
    clear hb4 hb5
    go_wp2
    all_goals go_end0
    refine ⟨rfl, ?_⟩
    rw [HRES.out]
    exact HT5.out.set (fun _ _ h => h.sv 0) rfl rfl
  · have eR : ((R : Int) == 0) = false := by simp; exact hR0
    obtain rfl : R = n := by omega
    clear hR hn hR0
    obtain ⟨u0, u0'⟩ := HB2.out.fcmd
    obtain ⟨U1, hU1⟩ : ∃ U, V1.setCell ⟨a, 780, none⟩ (.int .u8 34) = U := ⟨_, rfl⟩
    have hb4 := HB2.out.scmd (34 : Int)
    rw [hU1] at hb4
    obtain ⟨v1, v1'⟩ := hb4.fn
    obtain ⟨U2, hU2⟩ : ∃ U, U1.setCell ⟨a, 781, none⟩ (.slice none 0 0) = U := ⟨_, rfl⟩
    have hb5 := hb4.sn (.slice none 0 0) []
    rw [hU2] at hb5
    obtain ⟨v2, v2'⟩ := hb5.fv
    have HT5 := Lib.hid (show Turn G W U2 a { D1 with rep := 0, cmd := (34 : Int), n := [] } by rw [← hU2, ← hU1]; exact Turn.nilN (HT2.out.set (fun _ _ h => h.scmd (34 : Int)) rfl rfl))
    have HRES := Lib.hid (show D1.plainSign 34 = { D1 with rep := 0, cmd := (34 : Int), n := [], v := 0 } from by
      unfold Dec.plainSign
      rw [if_neg (by omega), if_pos (by omega)]; rfl)
    clear hb4 hb5
    go_wp2
    all_goals go_end0
    refine ⟨rfl, ?_⟩
    rw [HRES.out]
    exact HT5.out.set (fun _ _ h => h.sv 0) rfl rfl
set_option maxRecDepth 100000 in
set_option maxHeartbeats 16000000 in
theorem signA_cmd35 (G : Nat → Prop) (d : Dec) (W : World) (a c M : Nat) (hd : DOwn G W a d) (hok : DecOk M d) (hf : d.full = false) (hc : 33 ≤ c ∧ c ≤ 126) (hcmd : d.cmd = 0) (hk : c = 35) :
    Calls Try.prog 34 #[.pointer (some ⟨a, 0, none⟩), .int .u8 c] W fun e w' => e = .returned (.tuple #[]) ∧ Turn G W w' a (d.plainSign c) := by
  subst hk
  have HT1 := Lib.hid (Turn.refl (w := W) hd)
  have HOK1 := Lib.hid (And.intro hok hf)
  obtain ⟨pv, nv, hb, -⟩ := hd
  have k0 : W.cell? ⟨a, 780, none⟩ = some (.int .u8 0) := by rw [← hcmd]; exact hb.fcmd.1
  clear hb hok hf hcmd
  go_enter Try.func34, Try.ntmps34
  obtain ⟨G1, ⟨pv1, nv1, hb1, hp1, hn1, o1, o2, o3, hG1⟩, hs1, hk1⟩ := HT1.out
  obtain ⟨R, hR⟩ := nat_of HOK1.out.1.rep.1
  have hRb : R ≤ 65535 := by have := HOK1.out.1.rep.2; omega
  have j0 : W.cell? ⟨a, 783, none⟩ = some (.int .i64 (R : Int)) := by rw [← hR]; exact hb1.frep.1
  have j0' := hb1.frep.2
  obtain ⟨V1, hV1⟩ : ∃ V, W.setCell ⟨a, 783, none⟩ (.int .i64 0) = V := ⟨_, rfl⟩
  have hb2 : DBlk V1 a { d with rep := 0 } pv1 nv1 := by rw [← hV1]; exact hb1.srep 0
  have HT2 := Lib.hid (show Turn G W V1 a { d with rep := 0 } by rw [← hV1]; exact HT1.out.set (fun _ _ h => h.srep 0) rfl rfl)
  have HB2 := Lib.hid hb2
  clear hb1 hp1 hn1 o1 o2 o3 hG1 hs1 hk1 hb2
  obtain ⟨n, hn⟩ : ∃ n, max R 1 = n := ⟨_, rfl⟩
  have HRN := Lib.hid (And.intro hR hn)
  by_cases hR0 : R = 0
  · have eR : ((R : Int) == 0) = true := by simp; exact hR0
    obtain rfl : n = 1 := by omega
    clear hR hn hR0
    obtain ⟨u0, u0'⟩ := HB2.out.fcmd
    obtain ⟨U1, hU1⟩ : ∃ U, V1.setCell ⟨a, 780, none⟩ (.int .u8 35) = U := ⟨_, rfl⟩
    have hb4 := HB2.out.scmd (35 : Int)
    rw [hU1] at hb4
    obtain ⟨v1, v1'⟩ := hb4.fn
    obtain ⟨U2, hU2⟩ : ∃ U, U1.setCell ⟨a, 781, none⟩ (.slice none 0 0) = U := ⟨_, rfl⟩
    have hb5 := hb4.sn (.slice none 0 0) []
    rw [hU2] at hb5
    obtain ⟨v2, v2'⟩ := hb5.fv
    have HT5 := Lib.hid (show Turn G W U2 a { d with rep := 0, cmd := (35 : Int), n := [] } by rw [← hU2, ← hU1]; exact Turn.nilN (HT2.out.set (fun _ _ h => h.scmd (35 : Int)) rfl rfl))
    have HRES := Lib.hid (show d.plainSign 35 = { d with rep := 0, cmd := (35 : Int), n := [], v := 0 } from by
      unfold Dec.plainSign
      rw [if_neg (by omega), if_pos (by omega)]; rfl)
    clear hb4 hb5
    go_wp2
    all_goals go_end0
    refine ⟨rfl, ?_⟩
    rw [HRES.out]
    exact HT5.out.set (fun _ _ h => h.sv 0) rfl rfl
  · have eR : ((R : Int) == 0) = false := by simp; exact hR0
    obtain rfl : R = n := by omega
    clear hR hn hR0
    obtain ⟨u0, u0'⟩ := HB2.out.fcmd
    obtain ⟨U1, hU1⟩ : ∃ U, V1.setCell ⟨a, 780, none⟩ (.int .u8 35) = U := ⟨_, rfl⟩
    have hb4 := HB2.out.scmd (35 : Int)
    rw [hU1] at hb4
    obtain ⟨v1, v1'⟩ := hb4.fn
    obtain ⟨U2, hU2⟩ : ∃ U, U1.setCell ⟨a, 781, none⟩ (.slice none 0 0) = U := ⟨_, rfl⟩
    have hb5 := hb4.sn (.slice none 0 0) []
    rw [hU2] at hb5
    obtain ⟨v2, v2'⟩ := hb5.fv
    have HT5 := Lib.hid (show Turn G W U2 a { d with rep := 0, cmd := (35 : Int), n := [] } by rw [← hU2, ← hU1]; exact Turn.nilN (HT2.out.set (fun _ _ h => h.scmd (35 : Int)) rfl rfl))
    have HRES := Lib.hid (show d.plainSign 35 = { d with rep := 0, cmd := (35 : Int), n := [], v := 0 } from by
      unfold Dec.plainSign
      rw [if_neg (by omega), if_pos (by omega)]; rfl)
    clear hb4 hb5
    go_wp2
    all_goals go_end0
    refine ⟨rfl, ?_⟩
    rw [HRES.out]
    exact HT5.out.set (fun _ _ h => h.sv 0) rfl rfl
set_option maxRecDepth 100000 in
set_option maxHeartbeats 16000000 in
theorem signB_cmd35 (G : Nat → Prop) (d : Dec) (W : World) (a c M : Nat) (hd : DOwn G W a d) (hok : DecOk M d) (hf : d.full = false) (hc : 33 ≤ c ∧ c ≤ 126) (hcmd : d.cmd ≠ 0) (hnd : c < 48 ∨ 57 < c) (h59 : c ≠ 59) (hfu : (d.done d.w.toNat d.h.toNat).full = false) (hk : c = 35) :
    Calls Try.prog 34 #[.pointer (some ⟨a, 0, none⟩), .int .u8 c] W fun e w' => e = .returned (.tuple #[]) ∧ Turn G W w' a ((d.done d.w.toNat d.h.toNat).plainSign c) := by
  subst hk
  have HDN := Lib.hid (done_any G d W a d.w.toNat d.h.toNat M hd hok.pic hf hok.num hok.cmd)
  have hok1 := done_ok hok hf
  obtain ⟨pv, nv, hb, -⟩ := hd
  obtain ⟨k0, -⟩ := hb.fcmd
  obtain ⟨C, hC⟩ : ∃ C, d.cmd = C := ⟨_, rfl⟩
  rw [hC] at k0 hcmd
  have e0 : (C != 0) = true := by simp; exact hcmd
  obtain ⟨D1, hD1⟩ : ∃ D1, d.done d.w.toNat d.h.toNat = D1 := ⟨_, rfl⟩
  rw [hD1] at hok1 hfu HDN ⊢
  have HOK1 := Lib.hid (And.intro hok1 hfu)
  clear hb hC hok hf hcmd hok1 hfu hD1
  clear hnd h59
  go_enter Try.func34, Try.ntmps34
  go_wp2_with fail
  refine HDN.out.mono ?_
  rintro e w1 ⟨rfl, hT1⟩
  have HT1 := Lib.hid hT1
  clear hT1
  obtain ⟨G1, ⟨pv1, nv1, hb1, hp1, hn1, o1, o2, o3, hG1⟩, hs1, hk1⟩ := HT1.out
  obtain ⟨R, hR⟩ := nat_of HOK1.out.1.rep.1
  have hRb : R ≤ 65535 := by have := HOK1.out.1.rep.2; omega
  have j0 : w1.cell? ⟨a, 783, none⟩ = some (.int .i64 (R : Int)) := by rw [← hR]; exact hb1.frep.1
  have j0' := hb1.frep.2
  obtain ⟨V1, hV1⟩ : ∃ V, w1.setCell ⟨a, 783, none⟩ (.int .i64 0) = V := ⟨_, rfl⟩
  have hb2 : DBlk V1 a { D1 with rep := 0 } pv1 nv1 := by rw [← hV1]; exact hb1.srep 0
  have HT2 := Lib.hid (show Turn G W V1 a { D1 with rep := 0 } by rw [← hV1]; exact HT1.out.set (fun _ _ h => h.srep 0) rfl rfl)
  have HB2 := Lib.hid hb2
  have jf : w1.cell? ⟨a, 778, none⟩ = some (.bool false) := by rw [← HOK1.out.2]; exact hb1.ffull.1
  clear hb1 hp1 hn1 o1 o2 o3 hG1 hs1 hk1 hb2
  obtain ⟨n, hn⟩ : ∃ n, max R 1 = n := ⟨_, rfl⟩
  have HRN := Lib.hid (And.intro hR hn)
  by_cases hR0 : R = 0
  · have eR : ((R : Int) == 0) = true := by simp; exact hR0
    obtain rfl : n = 1 := by omega
    clear hR hn hR0
    obtain ⟨u0, u0'⟩ := HB2.out.fcmd
    obtain ⟨U1, hU1⟩ : ∃ U, V1.setCell ⟨a, 780, none⟩ (.int .u8 35) = U := ⟨_, rfl⟩
    have hb4 := HB2.out.scmd (35 : Int)
    rw [hU1] at hb4
    obtain ⟨v1, v1'⟩ := hb4.fn
    obtain ⟨U2, hU2⟩ : ∃ U, U1.setCell ⟨a, 781, none⟩ (.slice none 0 0) = U := ⟨_, rfl⟩
    have hb5 := hb4.sn (.slice none 0 0) []
    rw [hU2] at hb5
    obtain ⟨v2, v2'⟩ := hb5.fv
    have HT5 := Lib.hid (show Turn G W U2 a { D1 with rep := 0, cmd := (35 : Int), n := [] } by rw [← hU2, ← hU1]; exact Turn.nilN (HT2.out.set (fun _ _ h => h.scmd (35 : Int)) rfl rfl))
    have HRES := Lib.hid (show D1.plainSign 35 = { D1 with rep := 0, cmd := (35 : Int), n := [], v := 0 } from by
      unfold Dec.plainSign
      rw [if_neg (by omega), if_pos (by omega)]; rfl)
    clear hb4 hb5
    go_wp2
    all_goals go_end0
    refine ⟨rfl, ?_⟩
    rw [HRES.out]
    exact HT5.out.set (fun _ _ h => h.sv 0) rfl rfl
  · have eR : ((R : Int) == 0) = false := by simp; exact hR0
    obtain rfl : R = n := by omega
    clear hR hn hR0
    obtain ⟨u0, u0'⟩ := HB2.out.fcmd
    obtain ⟨U1, hU1⟩ : ∃ U, V1.setCell ⟨a, 780, none⟩ (.int .u8 35) = U := ⟨_, rfl⟩
    have hb4 := HB2.out.scmd (35 : Int)
    rw [hU1] at hb4
    obtain ⟨v1, v1'⟩ := hb4.fn
    obtain ⟨U2, hU2⟩ : ∃ U, U1.setCell ⟨a, 781, none⟩ (.slice none 0 0) = U := ⟨_, rfl⟩
    have hb5 := hb4.sn (.slice none 0 0) []
    rw [hU2] at hb5
    obtain ⟨v2, v2'⟩ := hb5.fv
    have HT5 := Lib.hid (show Turn G W U2 a { D1 with rep := 0, cmd := (35 : Int), n := [] } by rw [← hU2, ← hU1]; exact Turn.nilN (HT2.out.set (fun _ _ h => h.scmd (35 : Int)) rfl rfl))
    have HRES := Lib.hid (show D1.plainSign 35 = { D1 with rep := 0, cmd := (35 : Int), n := [], v := 0 } from by
      unfold Dec.plainSign
      rw [if_neg (by omega), if_pos (by omega)]; rfl)
    clear hb4 hb5
    go_wp2
    all_goals go_end0
    refine ⟨rfl, ?_⟩
    rw [HRES.out]
    exact HT5.out.set (fun _ _ h => h.sv 0) rfl rfl
theorem sign_any (G : Nat → Prop) (d : Dec) (W : World) (a c M : Nat) (hd : DOwn G W a d) (hok : DecOk M d) (hf : d.full = false) (hc : 33 ≤ c ∧ c ≤ 126) :
    Calls Try.prog 34 #[.pointer (some ⟨a, 0, none⟩), .int .u8 c] W fun e w' => e = .returned (.tuple #[]) ∧ Turn G W w' a (d.sig c) := by
  by_cases hcmd : d.cmd = 0
  · have e : d.sig c = d.plainSign c := by unfold Dec.sig; rw [if_pos hcmd]
    rw [e]
    by_cases h63 : 63 ≤ c
    · exact signA_six G d W a c M hd hok hf hc hcmd h63
    by_cases h1 : c = 33
    · exact signA_cmd33 G d W a c M hd hok hf hc hcmd h1
    by_cases h2 : c = 35
    · exact signA_cmd35 G d W a c M hd hok hf hc hcmd h2
    by_cases h3 : c = 34
    · exact signA_cmd34 G d W a c M hd hok hf hc hcmd h3
    by_cases h4 : c = 45
    · exact signA_minus G d W a c M hd hok hf hc hcmd h4
    by_cases h5 : c = 36
    · exact signA_doll G d W a c M hd hok hf hc hcmd h5
    exact signA_other G d W a c M hd hok hf hc hcmd ⟨h63, h1, h2, h3, h4, h5⟩
  · by_cases h48 : 48 ≤ c ∧ c ≤ 57
    · have e : d.sig c = { d with v := min (10 * d.v + ((c : Int) - 48)) 65535 } := by unfold Dec.sig; rw [if_neg hcmd, if_pos h48]
      rw [e]
      exact sign_digit G d W a c M hd hok hf hc hcmd h48
    by_cases h59 : c = 59
    · have e : d.sig c = d.push := by unfold Dec.sig; rw [if_neg hcmd, if_neg h48, if_pos h59]
      rw [e]
      exact sign_semi G d W a c M hd hok hf hc hcmd h59
    have hnd : c < 48 ∨ 57 < c := by omega
    cases hfu : (d.done d.w.toNat d.h.toNat).full with
    | true =>
      have e : d.sig c = d.done d.w.toNat d.h.toNat := by unfold Dec.sig; rw [if_neg hcmd, if_neg h48, if_neg h59, if_pos hfu]
      rw [e]
      exact signB_full G d W a c M hd hok hf hc hcmd hnd h59 hfu
    | false =>
      have e : d.sig c = (d.done d.w.toNat d.h.toNat).plainSign c := by unfold Dec.sig; rw [if_neg hcmd, if_neg h48, if_neg h59, if_neg (by rw [hfu]; simp)]
      rw [e]
      by_cases h63 : 63 ≤ c
      · exact signB_six G d W a c M hd hok hf hc hcmd hnd h59 hfu h63
      by_cases h1 : c = 33
      · exact signB_cmd33 G d W a c M hd hok hf hc hcmd hnd h59 hfu h1
      by_cases h2 : c = 35
      · exact signB_cmd35 G d W a c M hd hok hf hc hcmd hnd h59 hfu h2
      by_cases h3 : c = 34
      · exact signB_cmd34 G d W a c M hd hok hf hc hcmd hnd h59 hfu h3
      by_cases h4 : c = 45
      · exact signB_minus G d W a c M hd hok hf hc hcmd hnd h59 hfu h4
      by_cases h5 : c = 36
      · exact signB_doll G d W a c M hd hok hf hc hcmd hnd h59 hfu h5
      exact signB_other G d W a c M hd hok hf hc hcmd hnd h59 hfu ⟨h63, h1, h2, h3, h4, h5⟩
end Go.Proofs.Ytomcjdonacckfaa.R
