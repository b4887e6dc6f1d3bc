/- The law of fitting, walked. -/
import Derived.Test.YtgejefhnoloebaaFit
namespace Go.Proofs.Ytgejefhnoloebaa
open Go.RowKit Go.Sort
set_option linter.unusedVariables false
set_option linter.unusedSimpArgs false

set_option maxRecDepth 100000 in
set_option maxHeartbeats 8000000 in
theorem fit_no (w h : Int) (mx my : Int) (a : Option Addr) (n cap : Nat) (wd : World) (hw : I64 w) (hh : I64 h) (hs : sizeB w h = false) :
    Calls Try.prog 28 #[.agg #[.int .i64 mx, .int .i64 my, .slice a n cap], .int .i64 w, .int .i64 h] wd fun e w' => e = .returned (.tuple #[mat0, .int .i64 1]) ∧ Kept (fun _ => False) wd w' := by
  obtain ⟨W0, hW0⟩ : ∃ V, (wd.alloc (.cells #[.int .i64 mx, .int .i64 my, .slice a n cap] 35)).alloc (.cells #[.int .i64 0, .int .i64 0, .slice none 0 0] 35) = V := ⟨_, rfl⟩
  have k0 : Kept (fun _ => False) wd W0 := by rw [← hW0]; exact ((Kept.refl _ wd).alloc _).alloc _
  have HBR := Lib.hid (show W0.heap[wd.heap.size + 1]? = some (.cells #[.int .i64 0, .int .i64 0, .slice none 0 0] 35 (0, 0)) from by rw [← hW0]; exact blk_at _ _ (by simp))
  have HN := Lib.hid (fun wd => show Calls Try.prog 19 #[.int .i64 w, .int .i64 h] wd fun e w' => e = .returned (.tuple #[.agg #[.int .i64 0, .int .i64 0, .slice none 0 0], .int .i64 1]) ∧ Kept (fun _ => False) wd w' from new_no w h wd hw hh hs)
  have HK0 := Lib.hid k0
  clear k0 hs
  go_enter Try.func28, Try.ntmps28
  go_wp2_with fail
  refine (HN.out _).mono ?_; rintro e w1 ⟨rfl, hk⟩
  have kV : Kept (fun _ => False) w1 (w1.alloc (.cells #[.int .i64 0, .int .i64 0, .slice none 0 0] 35)) := (Kept.refl _ _).alloc _
  obtain ⟨U1, U2, U3, e1, e2, e3, ⟨r0, s0⟩, ⟨r1, s1⟩, ⟨r2, s2⟩, bU, kU⟩ := store3 ((hk.then kV).blk HBR.out id) (.int .i64 0) (.int .i64 0) (.slice none 0 0)
  obtain ⟨⟨m0, -⟩, ⟨m1, -⟩, m2, -⟩ := blk3 bU
  have HK := Lib.hid (((HK0.out.then hk).then kV).trans (kU.mono fun i _ hi => Or.inr (by have h9 : i = wd.heap.size + 1 := hi; omega)))
  clear hk kV kU bU
  go_wp2
  exact bodyPost_ret (v := .tuple #[mat0, .int .i64 1]) (by simp [results, Try.results28, go_sem, mat0, mat, m0, m1, m2]) rfl ⟨rfl, HK.out⟩
theorem same_str {xs ys : List Int} (hx : IsBytes xs) (hy : IsBytes ys) : ((strOfNums xs).toList == (strOfNums ys).toList) = decide (xs = ys) := str_eq hx hy

set_option maxRecDepth 100000 in
set_option maxHeartbeats 8000000 in
theorem equal_any (xs ys : List Int) (a1 a2 : Option Addr) (n1 n2 c1 c2 : Nat) (w : World) (h1 : SlAt .u8 w a1 n1 xs) (h2 : SlAt .u8 w a2 n2 ys) (hb1 : IsBytes xs) (hb2 : IsBytes ys) :
    Calls Try.prog 45 #[.slice a1 n1 c1, .slice a2 n2 c2] w fun e w' => e = .returned (.bool (decide (xs = ys))) ∧ w = w' := by
  have s1 := run_str (P := Try.prog) (dst := 9) Try.underlying33 Try.underlying5 Try.underlying9 (cap := c1) h1
  have s2 := run_str (P := Try.prog) (dst := 9) Try.underlying33 Try.underlying5 Try.underlying9 (cap := c2) h2
  have HE := Lib.hid (str_eq hb1 hb2)
  clear h1 h2 hb1 hb2
  go_enter Try.func45, Try.ntmps45
  go_wp2
  go_ret
  exact ⟨ret_bool HE.out, rfl⟩

set_option maxRecDepth 100000 in
set_option maxHeartbeats 8000000 in
theorem same_any (m1 m2 : Mx) (a1 a2 : Option Addr) (n1 n2 c1 c2 : Nat) (w : World) (h1 : SlAt .u8 w a1 n1 m1.p) (h2 : SlAt .u8 w a2 n2 m2.p) (hb1 : IsBytes m1.p) (hb2 : IsBytes m2.p) :
    Calls Try.prog 29 #[.agg #[.int .i64 m1.w, .int .i64 m1.h, .slice a1 n1 c1], .agg #[.int .i64 m2.w, .int .i64 m2.h, .slice a2 n2 c2]] w fun e w' => e = .returned (.bool (sameM m1 m2)) ∧ Kept (fun _ => False) w w' := by
  obtain ⟨w1, h1', p1⟩ := m1
  obtain ⟨w2, h2', p2⟩ := m2
  simp only at h1 h2 hb1 hb2 ⊢
  obtain ⟨W, hW⟩ : ∃ W, (w.alloc (.cells #[.int .i64 w1, .int .i64 h1', .slice a1 n1 c1] 35)).alloc (.cells #[.int .i64 w2, .int .i64 h2', .slice a2 n2 c2] 35) = W := ⟨_, rfl⟩
  have kW : Kept (fun _ => False) w W := by rw [← hW]; exact ((Kept.refl _ w).alloc _).alloc _
  have b0 : W.heap[w.heap.size]? = some (.cells #[.int .i64 w1, .int .i64 h1', .slice a1 n1 c1] 35 (0, 0)) := by rw [← hW]; exact blk_alloc (blk_new _ _) _
  have b1 : W.heap[w.heap.size + 1]? = some (.cells #[.int .i64 w2, .int .i64 h2', .slice a2 n2 c2] 35 (0, 0)) := by rw [← hW]; exact blk_at _ _ (by simp)
  have HC := Lib.hid (equal_any p1 p2 a1 a2 n1 n2 c1 c2 W (h1.up kW) (h2.up kW) hb1 hb2)
  have HK := Lib.hid kW
  obtain ⟨⟨x0, -⟩, ⟨x1, -⟩, x2, -⟩ := blk3 b0
  obtain ⟨⟨y0, -⟩, ⟨y1, -⟩, y2, -⟩ := blk3 b1
  clear b0 b1 kW h1 h2 hb1 hb2
  by_cases z1 : w1 = w2
  · have g1 : (w1 == w2) = true := by simp [z1]
    by_cases z2 : h1' = h2'
    · have g2 : (h1' == h2') = true := by simp [z2]
      have HE := Lib.hid (show sameM ⟨w1, h1', p1⟩ ⟨w2, h2', p2⟩ = decide (p1 = p2) by unfold sameM; simp [z1, z2])
      clear z1 z2
      go_enter Try.func29, Try.ntmps29
      go_wp2_with (go_at_call 45; refine HC.out.mono ?_; rintro e w' ⟨rfl, rfl⟩)
      go_ret
      exact ⟨ret_bool (by rw [HE.out]), HK.out⟩
    · have g2 : (h1' == h2') = false := by simp [z2]
      have HE := Lib.hid (show sameM ⟨w1, h1', p1⟩ ⟨w2, h2', p2⟩ = false from decide_eq_false (fun h => z2 h.2.1))
      clear z1 z2
      go_enter Try.func29, Try.ntmps29
      go_wp2
      go_ret
      exact ⟨ret_bool (by rw [HE.out]), HK.out⟩
  · have g1 : (w1 == w2) = false := by simp [z1]
    have HE := Lib.hid (show sameM ⟨w1, h1', p1⟩ ⟨w2, h2', p2⟩ = false from decide_eq_false (fun h => z1 h.1))
    clear z1
    go_enter Try.func29, Try.ntmps29
    go_wp2
    go_ret
    exact ⟨ret_bool (by rw [HE.out]), HK.out⟩
/-! ### the plain law -/
theorem src_self {W H P : Nat} (hP : P < W * H) : srcP W H W H P = P := by
  have hW : 0 < W := Nat.pos_of_ne_zero (fun h => by rw [h, Nat.zero_mul] at hP; omega)
  have hH : 0 < H := Nat.pos_of_ne_zero (fun h => by rw [h, Nat.mul_zero] at hP; omega)
  unfold srcP
  rw [Nat.mul_div_cancel _ hH, Nat.mul_div_cancel _ hW, Nat.mul_comm]
  exact Nat.div_add_mod P W
theorem fit_self (W H : Nat) (p : List Int) (hp : p.length = 4 * (W * H)) : tab (4 * (W * H)) (fitF W H W H p) = p := by
  refine list_ext (by rw [tab_length, hp]) (fun j hj => ?_)
  rw [tab_length] at hj
  rw [tab_get hj]
  unfold fitF
  rw [src_self (show j / 4 < W * H by omega)]
  congr 1; omega
theorem src_back {W H P : Nat} (hP : P < W * H) : srcP (2 * W) (2 * H) W H (srcP W H (2 * W) (2 * H) P) = P ∧ srcP W H (2 * W) (2 * H) P < 2 * W * (2 * H) := by
  have hW : 0 < W := Nat.pos_of_ne_zero (fun h => by rw [h, Nat.zero_mul] at hP; omega)
  have hH : 0 < H := Nat.pos_of_ne_zero (fun h => by rw [h, Nat.mul_zero] at hP; omega)
  have e1 : P / W * (2 * H) / H = P / W * 2 := by rw [← Nat.mul_assoc]; exact Nat.mul_div_cancel _ hH
  have e2 : P % W * (2 * W) / W = P % W * 2 := by rw [← Nat.mul_assoc]; exact Nat.mul_div_cancel _ hW
  have hm : P % W < W := Nat.mod_lt _ hW
  have hd : P / W < H := Nat.div_lt_of_lt_mul hP
  have h2 : srcP W H (2 * W) (2 * H) P = P / W * 2 * (2 * W) + P % W * 2 := by unfold srcP; rw [e1, e2]
  rw [h2]
  have i1 : (P / W * 2 * (2 * W) + P % W * 2) / (2 * W) = P / W * 2 := by
    rw [Nat.add_comm, Nat.add_mul_div_right _ _ (by omega), Nat.div_eq_of_lt (by omega)]; omega
  have i2 : (P / W * 2 * (2 * W) + P % W * 2) % (2 * W) = P % W * 2 := by
    rw [Nat.add_comm, Nat.add_mul_mod_self_right, Nat.mod_eq_of_lt (by omega)]
  have j1 : P / W * 2 * H / (2 * H) = P / W := by rw [Nat.mul_assoc]; exact Nat.mul_div_cancel _ (by omega)
  have j2 : P % W * 2 * W / (2 * W) = P % W := by rw [Nat.mul_assoc]; exact Nat.mul_div_cancel _ (by omega)
  constructor
  · unfold srcP
    rw [i1, i2, j1, j2, Nat.mul_comm]
    exact Nat.div_add_mod P W
  · have h3 : (P / W * 2 + 1) * (2 * W) ≤ 2 * H * (2 * W) := Nat.mul_le_mul_right _ (by omega)
    rw [Nat.mul_comm (2 * H)] at h3
    have h4 : (P / W * 2 + 1) * (2 * W) = P / W * 2 * (2 * W) + 2 * W := Nat.succ_mul _ _
    omega
theorem fit_back (W H : Nat) (p : List Int) (hp : p.length = 4 * (W * H)) : tab (4 * (W * H)) (fitF W H (2 * W) (2 * H) (tab (4 * (2 * W * (2 * H))) (fitF (2 * W) (2 * H) W H p))) = p := by
  refine list_ext (by rw [tab_length, hp]) (fun j hj => ?_)
  rw [tab_length] at hj
  rw [tab_get hj]
  obtain ⟨e1, e2⟩ := src_back (W := W) (H := H) (P := j / 4) (by omega)
  unfold fitF
  rw [tab_get (by omega)]
  rw [show (4 * srcP W H (2 * W) (2 * H) (j / 4) + j % 4) / 4 = srcP W H (2 * W) (2 * H) (j / 4) by omega, show (4 * srcP W H (2 * W) (2 * H) (j / 4) + j % 4) % 4 = j % 4 by omega, e1]
  congr 1; omega
theorem fitF_bytes (W H MW MH k : Nat) {p : List Int} (hp : IsBytes p) : IsBytes (tab k (fitF W H MW MH p)) := by
  intro n hn
  simp only [tab, List.mem_map] at hn
  obtain ⟨q, -, rfl⟩ := hn
  exact getD_byte hp _

set_option maxRecDepth 100000 in
set_option maxHeartbeats 8000000 in
theorem fits_early (m : Mx) (a : Option Addr) (n cap : Nat) (w : World) (hw : I64 m.w) (hh : I64 m.h) (hn : m.p.length = n) (hn2 : n ≤ 9223372036854775807) (h : 4096 < n ∨ rightM m = false) :
    Calls Try.prog 6 #[.agg #[.int .i64 m.w, .int .i64 m.h, .slice a n cap]] w fun e w' => e = .returned (.bool true) ∧ Kept (fun _ => False) w w' := by
  by_cases z : 4096 < n
  · have g1 : decide ((4096 : Int) < (n : Int)) = true := decide_eq_true (by omega)
    clear h hn
    go_enter Try.func6, Try.ntmps6
    go_wp2_with fail
    refine (known_any _).mono ?_; rintro e w1 ⟨rfl, hk⟩
    have b1 := hk.blk (blk_new w _) id
    have k1 := ((Kept.refl (fun _ => False) w).alloc _).then hk
    obtain ⟨⟨c0, f0⟩, ⟨c1, f1⟩, c2, f2⟩ := blk3 b1
    have HK1 := Lib.hid k1
    have HB1 := Lib.hid b1
    clear hk b1 k1
    go_wp2
    go_ret
    exact ⟨rfl, HK1.out⟩
  · have g1 : decide ((4096 : Int) < (n : Int)) = false := decide_eq_false (by omega)
    have HR := Lib.hid (fun w => show Calls Try.prog 26 #[.agg #[.int .i64 m.w, .int .i64 m.h, .slice a n cap]] w fun e w' => e = .returned (.bool false) ∧ Kept (fun _ => False) w w' from by rw [← h.resolve_left z]; exact rright_any m a n cap w hw hh hn hn2)
    clear h hn
    go_enter Try.func6, Try.ntmps6
    go_wp2_with fail
    refine (known_any _).mono ?_; rintro e w1 ⟨rfl, hk⟩
    have b1 := hk.blk (blk_new w _) id
    have k1 := ((Kept.refl (fun _ => False) w).alloc _).then hk
    obtain ⟨⟨c0, f0⟩, ⟨c1, f1⟩, c2, f2⟩ := blk3 b1
    have HK1 := Lib.hid k1
    have HB1 := Lib.hid b1
    clear hk b1 k1
    go_wp2_with fail
    refine (of_any _ _ _ _ _ _).mono ?_; rintro e w2 ⟨rfl, hk2⟩
    have HK2 := Lib.hid (HK1.out.then hk2)
    have HB2 := Lib.hid (hk2.blk HB1.out id)
    clear hk2
    go_wp2_with fail
    refine (HR.out _).mono ?_; rintro e w3 ⟨rfl, hk3⟩
    have HK3 := Lib.hid (HK2.out.then hk3)
    have HB3 := Lib.hid (hk3.blk HB2.out id)
    clear hk3 c0 c1 c2 f0 f1 f2
    go_wp2
    go_ret
    exact ⟨rfl, HK3.out⟩

set_option maxRecDepth 100000 in
set_option maxHeartbeats 8000000 in
theorem fits_go (W H : Nat) (p : List Int) (a : Option Addr) (n cap : Nat) (w : World) (hr : rightM ⟨W, H, p⟩ = true) (hx : SlAt .u8 w a n p) (hb : IsBytes p) (hc : n ≤ cap) (hcm : cap ≤ 9223372036854775807) (hl : n ≤ 4096) :
    Calls Try.prog 6 #[.agg #[.int .i64 W, .int .i64 H, .slice a n cap]] w fun e w' => e = .returned (.bool true) ∧ Kept (fun _ => False) w w' := by
  have g1 : decide ((4096 : Int) < (n : Int)) = false := decide_eq_false (by omega)
  have hr2 := hr
  unfold rightM at hr2
  rw [Bool.and_eq_true] at hr2
  have hs : sizeB W H = true := hr2.1
  have hr4 : decide ((p.length : Int) = 4 * (W : Int) * (H : Int)) = true := hr2.2
  obtain ⟨b1, b2, b3, b4, b5, b6, b7⟩ := sizeB_t hs
  have hr5 : (p.length : Int) = 4 * (W : Int) * (H : Int) := of_decide_eq_true hr4
  have hmm : (W : Int) * (H : Int) = ((W * H : Nat) : Int) := by simp
  rw [Int.mul_assoc, hmm] at hr5
  have hpl : p.length = 4 * (W * H) := by omega
  have hnl : n = 4 * (W * H) := by have h := hx.1; omega
  have hw2 : W ≤ 16384 := by omega
  have hh2 : H ≤ 16384 := by omega
  have hz7 : (W = 0 ∧ H = 0) ∨ (1 ≤ W ∧ 1 ≤ H) := by omega
  have hWH : W * H ≤ 1024 := by omega
  have HR := Lib.hid (fun w => show Calls Try.prog 26 #[.agg #[.int .i64 W, .int .i64 H, .slice a n cap]] w fun e w' => e = .returned (.bool true) ∧ Kept (fun _ => False) w w' from by
    rw [← hr]; exact rright_any ⟨W, H, p⟩ a n cap w (by unfold I64; simp only; omega) (by unfold I64; simp only; omega) hx.1 (by omega))
  have hself := fit_self W H p hpl
  have hback := fit_back W H p hpl
  obtain ⟨k, hk⟩ : ∃ k, 4 * (W * H) = k := ⟨_, rfl⟩
  obtain ⟨k2, hk2⟩ : ∃ k, 4 * (2 * W * (2 * H)) = k := ⟨_, rfl⟩
  have hk24 : k2 = 4 * k := by
    have : 2 * W * (2 * H) = 4 * (W * H) := by rw [Nat.mul_mul_mul_comm]
    omega
  obtain ⟨q, hq⟩ : ∃ q, tab k2 (fitF (2 * W) (2 * H) W H p) = q := ⟨_, rfl⟩
  rw [hk] at hself hback hnl
  rw [hk2, hq] at hback
  have hqb : IsBytes q := by rw [← hq]; exact fitF_bytes _ _ _ _ _ hb
  have hql : q.length = k2 := by rw [← hq, tab_length]
  subst hnl
  have D1 := Lib.hid (fun (V : World) (hk' : Kept (fun _ => False) w V) => show Calls Try.prog 28 #[.agg #[.int .i64 W, .int .i64 H, .slice a n cap], .int .i64 W, .int .i64 H] V fun e w' => ∃ g : Nat, e = .returned (.tuple #[.agg #[.int .i64 W, .int .i64 H, .slice (some ⟨g, 0, none⟩) n n], .int .i64 0]) ∧ SlAt .u8 w' (some ⟨g, 0, none⟩) n p ∧ Kept (fun _ => False) V w' from
    (fit_yes W H W H p a n cap V hs Iff.rfl hr (hx.up hk') hc hcm).mono fun e w' ⟨g, kk, h1, he, h2, h3, h4⟩ => by
      rw [hk] at h1
      subst h1
      rw [hself] at h3
      exact ⟨g, he, h3.slAt, h4⟩)
  have HX := Lib.hid hx
  have HB := Lib.hid hb
  have HS1 := Lib.hid (fun (V : World) (a1 a2 : Option Addr) (n1 n2 c1 c2 : Nat) (h1 : SlAt .u8 V a1 n1 p) (h2 : SlAt .u8 V a2 n2 p) => show Calls Try.prog 29 #[.agg #[.int .i64 W, .int .i64 H, .slice a1 n1 c1], .agg #[.int .i64 W, .int .i64 H, .slice a2 n2 c2]] V fun e w' => e = .returned (.bool true) ∧ Kept (fun _ => False) V w' from by
    have h := same_any ⟨W, H, p⟩ ⟨W, H, p⟩ a1 a2 n1 n2 c1 c2 V h1 h2 hb hb
    rw [sameM_self] at h; exact h)
  by_cases hbig : 2 * W ≤ 16384 ∧ 2 * H ≤ 16384
  · have hs2 : sizeB ((2 * W : Nat) : Int) ((2 * H : Nat) : Int) = true := by
      have e : ((2 * W : Nat) : Int) * ((2 * H : Nat) : Int) = 4 * ((W : Int) * (H : Int)) := by
        rw [show ((2 * W : Nat) : Int) = 2 * (W : Int) by omega, show ((2 * H : Nat) : Int) = 2 * (H : Int) by omega, Int.mul_assoc, Int.mul_left_comm (W : Int) 2 (H : Int)]; omega
      refine decide_eq_true ?_
      rw [e, hmm]
      omega
    have hr22 : rightM ⟨((2 * W : Nat) : Int), ((2 * H : Nat) : Int), q⟩ = true := by
      unfold rightM
      simp only
      rw [hs2, hql, Bool.true_and]
      refine decide_eq_true ?_
      rw [← hk2, Int.mul_assoc, show ((2 * W : Nat) : Int) * ((2 * H : Nat) : Int) = ((2 * W * (2 * H) : Nat) : Int) by simp]
      omega
    have D2 := Lib.hid (fun (V : World) (hk' : Kept (fun _ => False) w V) => show Calls Try.prog 28 #[.agg #[.int .i64 W, .int .i64 H, .slice a n cap], .int .i64 (2 * (W : Int)), .int .i64 (2 * (H : Int))] V fun e w' => ∃ g : Nat, e = .returned (.tuple #[.agg #[.int .i64 (2 * (W : Int)), .int .i64 (2 * (H : Int)), .slice (some ⟨g, 0, none⟩) k2 k2], .int .i64 0]) ∧ SlAt .u8 w' (some ⟨g, 0, none⟩) k2 q ∧ Kept (fun _ => False) V w' from
      (fit_yes (2 * W) (2 * H) W H p a n cap V hs2 (by omega) hr (hx.up hk') hc hcm).mono fun e w' ⟨g, kk, h1, he, h2, h3, h4⟩ => by
        rw [hk2] at h1
        subst h1
        rw [hq] at h3
        exact ⟨g, he, h3.slAt, h4⟩)
    have D3 := Lib.hid (fun (V : World) (g : Nat) (hy : SlAt .u8 V (some ⟨g, 0, none⟩) k2 q) => show Calls Try.prog 28 #[.agg #[.int .i64 (2 * (W : Int)), .int .i64 (2 * (H : Int)), .slice (some ⟨g, 0, none⟩) k2 k2], .int .i64 W, .int .i64 H] V fun e w' => ∃ g : Nat, e = .returned (.tuple #[.agg #[.int .i64 W, .int .i64 H, .slice (some ⟨g, 0, none⟩) n n], .int .i64 0]) ∧ SlAt .u8 w' (some ⟨g, 0, none⟩) n p ∧ Kept (fun _ => False) V w' from
      (fit_yes W H (2 * W) (2 * H) q (some ⟨g, 0, none⟩) k2 k2 V hs (by omega) hr22 hy (Nat.le_refl _) (by omega)).mono fun e w' ⟨g, kk, h1, he, h2, h3, h4⟩ => by
        rw [hk] at h1
        subst h1
        rw [hback] at h3
        exact ⟨g, he, h3.slAt, h4⟩)
    have gw : decide (2 * (W : Int) ≤ 16384) = true := decide_eq_true (by omega)
    have gh : decide (2 * (H : Int) ≤ 16384) = true := decide_eq_true (by omega)
    subst hk24
    have gl : ((4 * n : Nat) : Int) = 4 * (n : Int) := by omega
    have hn4 : n ≤ 4096 := hl
    clear hr hr2 hs hr4 hr5 hmm b1 b2 b3 b4 b5 b6 b7 hpl hz7 hWH hself hback hk hk2 hq hqb hql hs2 hr22 hbig hx hb
    go_enter Try.func6, Try.ntmps6
    go_wp2_with fail
    refine (known_any _).mono ?_; rintro e w1 ⟨rfl, hk⟩
    have b1 := hk.blk (blk_new w _) id
    have k1 := ((Kept.refl (fun _ => False) w).alloc _).then hk
    obtain ⟨⟨c0, f0⟩, ⟨c1, f1⟩, c2, f2⟩ := blk3 b1
    have HK1 := Lib.hid k1
    have HB1 := Lib.hid b1
    clear hk b1 k1
    go_wp2_with fail
    refine (of_any _ _ _ _ _ _).mono ?_; rintro e w2 ⟨rfl, hk2⟩
    have HK2 := Lib.hid (HK1.out.then hk2)
    have HB2 := Lib.hid (hk2.blk HB1.out id)
    clear hk2
    go_wp2_with fail
    refine (HR.out _).mono ?_; rintro e w3 ⟨rfl, hk3⟩
    have HK3 := Lib.hid (HK2.out.then hk3)
    have HB3 := Lib.hid (hk3.blk HB2.out id)
    clear hk3 c0 c1 c2 f0 f1 f2
    obtain ⟨⟨c0, -⟩, ⟨c1, -⟩, c2, -⟩ := blk3 HB3.out
    go_wp2_with fail
    refine (D1.out _ HK3.out).mono ?_; rintro e v1 ⟨ga, rfl, hsa, hk4⟩
    obtain ⟨V1, hV1⟩ : ∃ V, v1.alloc (.cells #[.int .i64 W, .int .i64 H, .slice (some ⟨ga, 0, none⟩) n n] 35) = V := ⟨_, rfl⟩
    have kV : Kept (fun _ => False) v1 V1 := by rw [← hV1]; exact (Kept.refl _ _).alloc _
    have HBA := Lib.hid (show V1.heap[v1.heap.size]? = some (.cells #[.int .i64 W, .int .i64 H, .slice (some ⟨ga, 0, none⟩) n n] 35 (0, 0)) from by rw [← hV1]; exact blk_new _ _)
    have HSA := Lib.hid (hsa.up kV)
    have HK4 := Lib.hid ((HK3.out.then hk4).then kV)
    have HB4 := Lib.hid ((hk4.then kV).blk HB3.out id)
    clear hk4 kV hsa c0 c1 c2
    obtain ⟨⟨c0, -⟩, ⟨c1, -⟩, c2, -⟩ := blk3 HB4.out
    go_wp2_with fail
    refine (D2.out _ HK4.out).mono ?_; rintro e v2 ⟨gb, rfl, hsb, hk4⟩
    obtain ⟨V2, hV2⟩ : ∃ V, v2.alloc (.cells #[.int .i64 (2 * (W : Int)), .int .i64 (2 * (H : Int)), .slice (some ⟨gb, 0, none⟩) (4 * n) (4 * n)] 35) = V := ⟨_, rfl⟩
    have kV : Kept (fun _ => False) v2 V2 := by rw [← hV2]; exact (Kept.refl _ _).alloc _
    have HBB := Lib.hid (show V2.heap[v2.heap.size]? = some (.cells #[.int .i64 (2 * (W : Int)), .int .i64 (2 * (H : Int)), .slice (some ⟨gb, 0, none⟩) (4 * n) (4 * n)] 35 (0, 0)) from by rw [← hV2]; exact blk_new _ _)
    have HSB := Lib.hid (hsb.up kV)
    have HSA2 := Lib.hid (HSA.out.up (hk4.then kV))
    have HBA2 := Lib.hid ((hk4.then kV).blk HBA.out id)
    have HK5 := Lib.hid ((HK4.out.then hk4).then kV)
    have HB5 := Lib.hid ((hk4.then kV).blk HB4.out id)
    have HX5 := Lib.hid (HX.out.up HK5.out)
    clear hk4 kV hsb c0 c1 c2 hV1
    obtain ⟨⟨c0, -⟩, ⟨c1, -⟩, c2, -⟩ := blk3 HB5.out
    obtain ⟨⟨d0, -⟩, ⟨d1, -⟩, d2, -⟩ := blk3 HBA2.out
    go_wp2_with fail
    refine (HS1.out _ _ _ _ _ _ _ HSA2.out HX5.out).mono ?_; rintro e v3 ⟨rfl, hk6⟩
    have HB6 := Lib.hid (hk6.blk HB5.out id)
    have HBB6 := Lib.hid (hk6.blk HBB.out id)
    have HK6 := Lib.hid (HK5.out.then hk6)
    have HSB6 := Lib.hid (HSB.out.up hk6)
    clear hk6 c0 c1 c2 d0 d1 d2 hV2
    obtain ⟨⟨c0, -⟩, ⟨c1, -⟩, c2, -⟩ := blk3 HB6.out
    obtain ⟨⟨d0, -⟩, ⟨d1, -⟩, d2, -⟩ := blk3 HBB6.out
    go_wp2_with fail
    refine (D3.out _ _ HSB6.out).mono ?_; rintro e v4 ⟨gc, rfl, hsc, hk7⟩
    obtain ⟨V4, hV4⟩ : ∃ V, v4.alloc (.cells #[.int .i64 W, .int .i64 H, .slice (some ⟨gc, 0, none⟩) n n] 35) = V := ⟨_, rfl⟩
    have kV : Kept (fun _ => False) v4 V4 := by rw [← hV4]; exact (Kept.refl _ _).alloc _
    have HBC := Lib.hid (show V4.heap[v4.heap.size]? = some (.cells #[.int .i64 W, .int .i64 H, .slice (some ⟨gc, 0, none⟩) n n] 35 (0, 0)) from by rw [← hV4]; exact blk_new _ _)
    have HSC := Lib.hid (hsc.up kV)
    have HK7 := Lib.hid ((HK6.out.then hk7).then kV)
    have HB7 := Lib.hid ((hk7.then kV).blk HB6.out id)
    have HBB7 := Lib.hid ((hk7.then kV).blk HBB6.out id)
    have HX7 := Lib.hid (HX.out.up HK7.out)
    clear hk7 kV hsc c0 c1 c2 d0 d1 d2
    obtain ⟨⟨c0, -⟩, ⟨c1, -⟩, c2, -⟩ := blk3 HB7.out
    obtain ⟨⟨d0, -⟩, ⟨d1, -⟩, d2, -⟩ := blk3 HBC.out
    go_wp2_with fail
    refine (HS1.out _ _ _ _ _ _ _ HSC.out HX7.out).mono ?_; rintro e v5 ⟨rfl, hk8⟩
    have HB8 := Lib.hid (hk8.blk HB7.out id)
    have HBB8 := Lib.hid (hk8.blk HBB7.out id)
    have HK8 := Lib.hid (HK7.out.then hk8)
    clear hk8 c0 c1 c2 d0 d1 d2 hV4
    obtain ⟨⟨c0, -⟩, ⟨c1, -⟩, c2, -⟩ := blk3 HB8.out
    obtain ⟨⟨d0, -⟩, ⟨d1, -⟩, d2, -⟩ := blk3 HBB8.out
    go_wp2
    go_ret
    exact ⟨rfl, HK8.out⟩
  · have hs2 : sizeB (2 * (W : Int)) (2 * (H : Int)) = false := by
      refine decide_eq_false ?_
      omega
    have D2 := Lib.hid (fun (V : World) => show Calls Try.prog 28 #[.agg #[.int .i64 W, .int .i64 H, .slice a n cap], .int .i64 (2 * (W : Int)), .int .i64 (2 * (H : Int))] V fun e w' => e = .returned (.tuple #[.agg #[.int .i64 0, .int .i64 0, .slice none 0 0], .int .i64 1]) ∧ Kept (fun _ => False) V w' from
      fit_no (2 * (W : Int)) (2 * (H : Int)) W H a n cap V (by unfold I64; omega) (by unfold I64; omega) hs2)
    by_cases hgw : 2 * W ≤ 16384
    · have gw : decide (2 * (W : Int) ≤ 16384) = true := decide_eq_true (by omega)
      have gh : decide (2 * (H : Int) ≤ 16384) = false := decide_eq_false (by omega)
      clear hr hr2 hs hr4 hr5 hmm b1 b2 b3 b4 b5 b6 b7 hpl hz7 hWH hself hback hk hk2 hq hqb hql hs2 hbig hx hb hk24
      go_enter Try.func6, Try.ntmps6
      go_wp2_with fail
      refine (known_any _).mono ?_; rintro e w1 ⟨rfl, hk⟩
      have b1 := hk.blk (blk_new w _) id
      have k1 := ((Kept.refl (fun _ => False) w).alloc _).then hk
      obtain ⟨⟨c0, f0⟩, ⟨c1, f1⟩, c2, f2⟩ := blk3 b1
      have HK1 := Lib.hid k1
      have HB1 := Lib.hid b1
      clear hk b1 k1
      go_wp2_with fail
      refine (of_any _ _ _ _ _ _).mono ?_; rintro e w2 ⟨rfl, hk2⟩
      have HK2 := Lib.hid (HK1.out.then hk2)
      have HB2 := Lib.hid (hk2.blk HB1.out id)
      clear hk2
      go_wp2_with fail
      refine (HR.out _).mono ?_; rintro e w3 ⟨rfl, hk3⟩
      have HK3 := Lib.hid (HK2.out.then hk3)
      have HB3 := Lib.hid (hk3.blk HB2.out id)
      clear hk3 c0 c1 c2 f0 f1 f2
      obtain ⟨⟨c0, -⟩, ⟨c1, -⟩, c2, -⟩ := blk3 HB3.out
      go_wp2_with fail
      refine (D1.out _ HK3.out).mono ?_; rintro e v1 ⟨ga, rfl, hsa, hk4⟩
      obtain ⟨V1, hV1⟩ : ∃ V, v1.alloc (.cells #[.int .i64 W, .int .i64 H, .slice (some ⟨ga, 0, none⟩) n n] 35) = V := ⟨_, rfl⟩
      have kV : Kept (fun _ => False) v1 V1 := by rw [← hV1]; exact (Kept.refl _ _).alloc _
      have HBA := Lib.hid (show V1.heap[v1.heap.size]? = some (.cells #[.int .i64 W, .int .i64 H, .slice (some ⟨ga, 0, none⟩) n n] 35 (0, 0)) from by rw [← hV1]; exact blk_new _ _)
      have HSA := Lib.hid (hsa.up kV)
      have HK4 := Lib.hid ((HK3.out.then hk4).then kV)
      have HB4 := Lib.hid ((hk4.then kV).blk HB3.out id)
      clear hk4 kV hsa c0 c1 c2
      obtain ⟨⟨c0, -⟩, ⟨c1, -⟩, c2, -⟩ := blk3 HB4.out
      go_wp2_with fail
      refine (D2.out _).mono ?_; rintro e v2 ⟨rfl, hk4⟩
      have kV : Kept (fun _ => False) v2 (v2.alloc (.cells #[.int .i64 0, .int .i64 0, .slice none 0 0] 35)) := (Kept.refl _ _).alloc _
      have HSA2 := Lib.hid (HSA.out.up (hk4.then kV))
      have HBA2 := Lib.hid ((hk4.then kV).blk HBA.out id)
      have HK5 := Lib.hid ((HK4.out.then hk4).then kV)
      have HB5 := Lib.hid ((hk4.then kV).blk HB4.out id)
      have HX5 := Lib.hid (HX.out.up HK5.out)
      clear hk4 kV c0 c1 c2 hV1
      obtain ⟨⟨c0, -⟩, ⟨c1, -⟩, c2, -⟩ := blk3 HB5.out
      obtain ⟨⟨d0, -⟩, ⟨d1, -⟩, d2, -⟩ := blk3 HBA2.out
      go_wp2_with fail
      refine (HS1.out _ _ _ _ _ _ _ HSA2.out HX5.out).mono ?_; rintro e v3 ⟨rfl, hk6⟩
      have HB6 := Lib.hid (hk6.blk HB5.out id)
      have HK6 := Lib.hid (HK5.out.then hk6)
      clear hk6 c0 c1 c2 d0 d1 d2
      obtain ⟨⟨c0, -⟩, ⟨c1, -⟩, c2, -⟩ := blk3 HB6.out
      go_wp2
      go_ret
      exact ⟨rfl, HK6.out⟩
    · have gw : decide (2 * (W : Int) ≤ 16384) = false := decide_eq_false (by omega)
      clear hr hr2 hs hr4 hr5 hmm b1 b2 b3 b4 b5 b6 b7 hpl hz7 hWH hself hback hk hk2 hq hqb hql hs2 hbig hx hb hk24
      go_enter Try.func6, Try.ntmps6
      go_wp2_with fail
      refine (known_any _).mono ?_; rintro e w1 ⟨rfl, hk⟩
      have b1 := hk.blk (blk_new w _) id
      have k1 := ((Kept.refl (fun _ => False) w).alloc _).then hk
      obtain ⟨⟨c0, f0⟩, ⟨c1, f1⟩, c2, f2⟩ := blk3 b1
      have HK1 := Lib.hid k1
      have HB1 := Lib.hid b1
      clear hk b1 k1
      go_wp2_with fail
      refine (of_any _ _ _ _ _ _).mono ?_; rintro e w2 ⟨rfl, hk2⟩
      have HK2 := Lib.hid (HK1.out.then hk2)
      have HB2 := Lib.hid (hk2.blk HB1.out id)
      clear hk2
      go_wp2_with fail
      refine (HR.out _).mono ?_; rintro e w3 ⟨rfl, hk3⟩
      have HK3 := Lib.hid (HK2.out.then hk3)
      have HB3 := Lib.hid (hk3.blk HB2.out id)
      clear hk3 c0 c1 c2 f0 f1 f2
      obtain ⟨⟨c0, -⟩, ⟨c1, -⟩, c2, -⟩ := blk3 HB3.out
      go_wp2_with fail
      refine (D1.out _ HK3.out).mono ?_; rintro e v1 ⟨ga, rfl, hsa, hk4⟩
      obtain ⟨V1, hV1⟩ : ∃ V, v1.alloc (.cells #[.int .i64 W, .int .i64 H, .slice (some ⟨ga, 0, none⟩) n n] 35) = V := ⟨_, rfl⟩
      have kV : Kept (fun _ => False) v1 V1 := by rw [← hV1]; exact (Kept.refl _ _).alloc _
      have HBA := Lib.hid (show V1.heap[v1.heap.size]? = some (.cells #[.int .i64 W, .int .i64 H, .slice (some ⟨ga, 0, none⟩) n n] 35 (0, 0)) from by rw [← hV1]; exact blk_new _ _)
      have HSA := Lib.hid (hsa.up kV)
      have HK4 := Lib.hid ((HK3.out.then hk4).then kV)
      have HB4 := Lib.hid ((hk4.then kV).blk HB3.out id)
      clear hk4 kV hsa c0 c1 c2
      obtain ⟨⟨c0, -⟩, ⟨c1, -⟩, c2, -⟩ := blk3 HB4.out
      go_wp2_with fail
      refine (D2.out _).mono ?_; rintro e v2 ⟨rfl, hk4⟩
      have kV : Kept (fun _ => False) v2 (v2.alloc (.cells #[.int .i64 0, .int .i64 0, .slice none 0 0] 35)) := (Kept.refl _ _).alloc _
      have HSA2 := Lib.hid (HSA.out.up (hk4.then kV))
      have HBA2 := Lib.hid ((hk4.then kV).blk HBA.out id)
      have HK5 := Lib.hid ((HK4.out.then hk4).then kV)
      have HB5 := Lib.hid ((hk4.then kV).blk HB4.out id)
      have HX5 := Lib.hid (HX.out.up HK5.out)
      clear hk4 kV c0 c1 c2 hV1
      obtain ⟨⟨c0, -⟩, ⟨c1, -⟩, c2, -⟩ := blk3 HB5.out
      obtain ⟨⟨d0, -⟩, ⟨d1, -⟩, d2, -⟩ := blk3 HBA2.out
      go_wp2_with fail
      refine (HS1.out _ _ _ _ _ _ _ HSA2.out HX5.out).mono ?_; rintro e v3 ⟨rfl, hk6⟩
      have HB6 := Lib.hid (hk6.blk HB5.out id)
      have HK6 := Lib.hid (HK5.out.then hk6)
      clear hk6 c0 c1 c2 d0 d1 d2
      obtain ⟨⟨c0, -⟩, ⟨c1, -⟩, c2, -⟩ := blk3 HB6.out
      go_wp2
      go_ret
      exact ⟨rfl, HK6.out⟩
theorem law_fits {mx my : Int} {am : Option Addr} {n nc : Nat} {zm : List Int} {w : World} (f0 : (Lit.int .i64 mx).wf = true ∧ (Lit.int .i64 my).wf = true ∧ IsRow .u8 w am n nc zm) :
    Calls Try.prog 6 #[.agg #[.int .i64 mx, .int .i64 my, .slice am n nc]] w fun e w' => e = .returned (.bool true) ∧ Below w.heap.size w w' := by
  refine Calls.mono (R := fun e w' => e = .returned (.bool true) ∧ Kept (fun _ => False) w w') ?_ fun _ _ h => ⟨h.1, h.2.below⟩
  obtain ⟨s2, l2, m2, b2, -, -⟩ := f0.2.2.slAt
  by_cases h : 4096 < n ∨ rightM ⟨mx, my, zm.take n⟩ = false
  · exact fits_early ⟨mx, my, zm.take n⟩ am n nc w (int_of_wf f0.1) (int_of_wf f0.2.1) s2.1 (by omega) h
  · have hr : rightM ⟨mx, my, zm.take n⟩ = true := by
      cases hr : rightM ⟨mx, my, zm.take n⟩ with
      | true => rfl
      | false => exact absurd (Or.inr hr) h
    have hr2 := hr
    unfold rightM at hr2
    rw [Bool.and_eq_true] at hr2
    have hs : sizeB mx my = true := hr2.1
    obtain ⟨b1, -, b3, -, -, -, -⟩ := sizeB_t hs
    obtain ⟨W, rfl⟩ := Int.eq_ofNat_of_zero_le b1
    obtain ⟨H, rfl⟩ := Int.eq_ofNat_of_zero_le b3
    exact fits_go W H _ am n nc w hr s2 (fun v hv => by have := byte_of_wf (b2 v hv); omega) l2 m2 (by omega)

end Go.Proofs.Ytgejefhnoloebaa
