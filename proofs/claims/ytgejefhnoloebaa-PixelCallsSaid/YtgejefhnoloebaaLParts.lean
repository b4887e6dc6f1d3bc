/- The law of parts, walked: the parts themselves. -/
import Derived.Test.YtgejefhnoloebaaLEarly
namespace Go.Proofs.Ytgejefhnoloebaa
open Go.RowKit Go.Sort
set_option linter.unusedVariables false
set_option linter.unusedSimpArgs false
theorem Own.sl {k : IntKind} {e : TypeId} {w : World} {a : Option Addr} {n c : Nat} {xs : List Int} (h : Own k e w (.slice a n c) xs) : SlAt k w a n xs ∧ n ≤ c ∧ c ≤ 9223372036854775807 ∧ (a = none → n = 0 ∧ c = 0) := by
  obtain ⟨_, _, hv, h1, h2, h3, h4, -⟩ := h.shape
  cases hv
  exact ⟨h1, h2, by simpa [maxLen] using h3, h4⟩

set_option maxRecDepth 100000 in
set_option maxHeartbeats 8000000 in
theorem parts_near (W H : Nat) (p : List Int) (x y cw ch : Int) (a : Option Addr) (n cap : Nat) (c0 c1 c2 c3 : Int) (w : World) (hcw : I64 cw) (hch : I64 ch) (hn2 : n ≤ 16384) (hr : rightM ⟨W, H, p⟩ = true)
    (hs : SlAt .u8 w a n p) (hpb : IsBytes p) (hc : n ≤ cap) (hcm : cap ≤ 9223372036854775807) (hnil : a = none → n = 0 ∧ cap = 0) (hx : 0 ≤ x ∧ x ≤ 100) (hy : 0 ≤ y ∧ y ≤ 100) (hcb : (0 ≤ c0 ∧ c0 ≤ 255) ∧ (0 ≤ c1 ∧ c1 ≤ 255) ∧ (0 ≤ c2 ∧ c2 ≤ 255) ∧ (0 ≤ c3 ∧ c3 ≤ 255)) :
    Calls Try.prog 8 #[.agg #[.int .i64 W, .int .i64 H, .slice a n cap], .int .i64 x, .int .i64 y, .int .i64 cw, .int .i64 ch, .agg #[.int .u8 c0, .int .u8 c1, .int .u8 c2, .int .u8 c3]] w fun e w' => e = .returned (.bool true) ∧ Kept (fun _ => False) w w' := by
  have hr2 := hr
  unfold rightM at hr2
  rw [Bool.and_eq_true] at hr2
  have hsz : sizeB W H = true := hr2.1
  have h4 : (p.length : Int) = 4 * (W : Int) * (H : Int) := of_decide_eq_true hr2.2
  obtain ⟨z1, z2, z3, z4, -⟩ := sizeB_t hsz
  have hl := hs.1
  have hN : n = 4 * (W * H) := by rw [Int.mul_assoc, show (W : Int) * (H : Int) = ((W * H : Nat) : Int) by simp] at h4; omega
  have hW : I64 (W : Int) := by unfold I64; omega
  have hH : I64 (H : Int) := by unfold I64; omega
  have hxx : I64 x := by unfold I64; omega
  have hyy : I64 y := by unfold I64; omega
  obtain ⟨q1, q2, q3, q4⟩ := cutM_right (x := x) (y := y) (cw := cw) (ch := ch) (p := p) hsz
  have q5 := cutM_bytes (W := W) (H := H) (x := x) (y := y) (cw := cw) (ch := ch) hpb
  have HDC := Lib.hid (fun ho => draw_cut (x := x) (y := y) (cw := cw) (ch := ch) hsz hN hl hpb ho hx.1 hy.1)
  have hCF := cut_fill (x := x) (y := y) (cw := cw) (ch := ch) (p := p) (c0 := c0) (c1 := c1) (c2 := c2) (c3 := c3) hN
  have hsd := cutM_sides W H x y cw ch (fillL W H x y cw ch p c0 c1 c2 c3 n) p
  obtain ⟨C, hCe⟩ : ∃ C, (cutM W H x y cw ch p).1 = C := ⟨_, rfl⟩
  obtain ⟨D, hDe⟩ : ∃ C, (cutM W H x y cw ch p).2.1 = C := ⟨_, rfl⟩
  obtain ⟨cp, hcpe⟩ : ∃ C, (cutM W H x y cw ch p).2.2 = C := ⟨_, rfl⟩
  obtain ⟨fl, hfle⟩ : ∃ C, fillL W H x y cw ch p c0 c1 c2 c3 n = C := ⟨_, rfl⟩
  rw [hfle] at hCF hsd
  have hfll : fl.length = n := by rw [← hfle]; exact tab_length _ _
  have hfr : rightM ⟨W, H, fl⟩ = true := by
    unfold rightM at hr ⊢; simp only at hr ⊢; rw [hfll]; rw [hl] at hr; exact hr
  have q6 := (cutM_right (x := x) (y := y) (cw := cw) (ch := ch) (p := fl) hsz).2.2.1
  obtain ⟨fp, hfpe⟩ : ∃ C, (cutM W H x y cw ch fl).2.2 = C := ⟨_, rfl⟩
  rw [hsd.1, hsd.2, hCe, hDe, hfpe] at q6
  rw [hfpe] at hCF
  rw [hCe] at q1 q3 q4; rw [hDe] at q2 q3 q4; rw [hcpe] at q3 q4 q5
  rw [hCe, hDe, hcpe] at HDC
  have CF := Lib.hid (fun w => show Calls Try.prog 18 #[.agg #[.int .i64 W, .int .i64 H, .slice a n cap]] w fun e w' => e = .returned (.bool true) ∧ Kept (fun _ => False) w w' from by have h := few_any W H a n cap w (by omega); rw [decide_eq_true (by omega)] at h; exact h)
  have CO := Lib.hid (fun w => show Calls Try.prog 27 #[.agg #[.int .i64 W, .int .i64 H, .slice a n cap]] w fun e w' => e = .returned (.agg #[.int .i64 W, .int .i64 H, .slice a n cap]) ∧ Kept (fun _ => False) w w' from of_any _ _ _ _ _ _)
  have CR := Lib.hid (fun w => show Calls Try.prog 26 #[.agg #[.int .i64 W, .int .i64 H, .slice a n cap]] w fun e w' => e = .returned (.bool true) ∧ Kept (fun _ => False) w w' from by rw [← hr]; exact rright_any ⟨W, H, p⟩ a n cap w hW hH hl (by omega))
  have HCUT := Lib.hid (fun (w : World) (hs : SlAt .u8 w a n p) => show Calls Try.prog 33 #[.agg #[.int .i64 W, .int .i64 H, .slice a n cap], .int .i64 x, .int .i64 y, .int .i64 cw, .int .i64 ch] w fun e w' => ∃ v, e = .returned (.agg #[.int .i64 C, .int .i64 D, v]) ∧ Made w cp v w' from by
    have h := cut_any W H x y cw ch p a n cap w hxx hyy hcw hch hr hs hn2 hc hcm
    rw [hCe, hDe, hcpe] at h; exact h)
  have HCD : C * D ≤ W * H := Nat.mul_le_mul q1 q2
  have HDRAW := Lib.hid (fun (w : World) (sa : Option Addr) (sc : Nat) (hs : SlAt .u8 w a n p) (h2 : SlAt .u8 w sa (4 * (C * D)) cp) (h3 : 4 * (C * D) ≤ sc) (h4 : sc ≤ 9223372036854775807) => draw_any W H C D x y p cp a sa n cap (4 * (C * D)) sc w hxx hyy (by omega) (by omega) (by omega) (by omega) hN rfl hn2 (by omega) hr q4 hs h2 hpb q5 hnil h3 h4)
  have HFILL := Lib.hid (fun (w : World) (hs : SlAt .u8 w a n p) => show Calls Try.prog 34 #[.agg #[.int .i64 W, .int .i64 H, .slice a n cap], .int .i64 x, .int .i64 y, .int .i64 cw, .int .i64 ch, .agg #[.int .u8 c0, .int .u8 c1, .int .u8 c2, .int .u8 c3]] w fun e w' => ∃ v, e = .returned (.agg #[.int .i64 W, .int .i64 H, v]) ∧ Made w fl v w' from by
    rw [← hfle]; exact fill_any W H x y cw ch p a n cap c0 c1 c2 c3 w hxx hyy hcw hch hr hs hn2 hnil)
  have HCUT2 := Lib.hid (fun (w : World) (sa : Option Addr) (sc : Nat) (hs : SlAt .u8 w sa n fl) (hc : n ≤ sc) (hcm : sc ≤ 9223372036854775807) => show Calls Try.prog 33 #[.agg #[.int .i64 W, .int .i64 H, .slice sa n sc], .int .i64 x, .int .i64 y, .int .i64 cw, .int .i64 ch] w fun e w' => ∃ v, e = .returned (.agg #[.int .i64 C, .int .i64 D, v]) ∧ Made w fp v w' from by
    have h := cut_any W H x y cw ch fl sa n sc w hxx hyy hcw hch hfr hs hn2 hc hcm
    rw [hsd.1, hsd.2, hCe, hDe, hfpe] at h; exact h)
  have HSAME := Lib.hid (fun (w : World) (sa : Option Addr) (sc : Nat) (hs : SlAt .u8 w a n p) (h2 : SlAt .u8 w sa n p) => show Calls Try.prog 29 #[.agg #[.int .i64 W, .int .i64 H, .slice sa n sc], .agg #[.int .i64 W, .int .i64 H, .slice a n cap]] w fun e w' => e = .returned (.bool true) ∧ Kept (fun _ => False) w w' from by
    have h := same_any ⟨W, H, p⟩ ⟨W, H, p⟩ sa a n n sc cap w h2 hs hpb hpb
    rw [sameM_self] at h; exact h)
  have HS := Lib.hid hs
  have HN := Lib.hid hN
  have HQ3 := Lib.hid q3
  have HQ6 := Lib.hid q6
  have HCFI := Lib.hid hCF
  obtain ⟨L, hL⟩ : ∃ L, 4 * (C * D) = L := ⟨_, rfl⟩
  have hLn : L ≤ 16384 := by omega
  rw [hL] at HDRAW HQ3 HQ6
  have hx0 : decide (x < 0) = false := decide_eq_false (by omega)
  have hy0 : decide (y < 0) = false := decide_eq_false (by omega)
  have hx1 : decide (100 < x) = false := decide_eq_false (by omega)
  have hy1 : decide (100 < y) = false := decide_eq_false (by omega)
  have HFL := Lib.hid hfll
  have HPL := Lib.hid hl
  clear hr hr2 hsz h4 hs hpb q3 q4 q5 hCF hsd hCe hDe hcpe hfle hfr q6 hfpe HCD hL hfll hN hl
  go_enter Try.func8, Try.ntmps8
  go_wp2_with fail
  refine (known_any _).mono ?_; rintro e w1 ⟨rfl, hk⟩
  have kk := (((Kept.refl (fun _ => False) w).alloc (.cells #[.int .i64 W, .int .i64 H, .slice a n cap] 35)).alloc (.cells #[.int .u8 c0, .int .u8 c1, .int .u8 c2, .int .u8 c3] 23)).then hk
  have HM1 := Lib.hid (hk.blk (blk_alloc (blk_new w (.cells #[.int .i64 W, .int .i64 H, .slice a n cap] 35)) (.cells #[.int .u8 c0, .int .u8 c1, .int .u8 c2, .int .u8 c3] 23)) id)
  have HC1 := Lib.hid (hk.blk (blk_at (w.alloc (.cells #[.int .i64 W, .int .i64 H, .slice a n cap] 35)) (.cells #[.int .u8 c0, .int .u8 c1, .int .u8 c2, .int .u8 c3] 23) (b := w.heap.size + 1) (by simp)) id)
  have HK1 := Lib.hid kk
  obtain ⟨⟨a0, -⟩, ⟨a1, -⟩, a2, -⟩ := blk3 HM1.out
  clear hk kk
  go_wp2_with fail
  refine (CF.out _).mono ?_; rintro e w2 ⟨rfl, hk⟩
  have HM2 := Lib.hid (hk.blk HM1.out id)
  have HC2 := Lib.hid (hk.blk HC1.out id)
  have HK2 := Lib.hid (HK1.out.then hk)
  clear hk a0 a1 a2
  obtain ⟨⟨a0, -⟩, ⟨a1, -⟩, a2, -⟩ := blk3 HM2.out
  go_wp2_with fail
  refine (CO.out _).mono ?_; rintro e w3 ⟨rfl, hk⟩
  have HM3 := Lib.hid (hk.blk HM2.out id)
  have HC3 := Lib.hid (hk.blk HC2.out id)
  have HK3 := Lib.hid (HK2.out.then hk)
  clear hk a0 a1 a2
  obtain ⟨⟨a0, -⟩, ⟨a1, -⟩, a2, -⟩ := blk3 HM3.out
  go_wp2_with fail
  refine (CR.out _).mono ?_; rintro e w4 ⟨rfl, hk⟩
  have HM4 := Lib.hid (hk.blk HM3.out id)
  have HC4 := Lib.hid (hk.blk HC3.out id)
  have HK4 := Lib.hid (HK3.out.then hk)
  clear hk a0 a1 a2
  obtain ⟨⟨a0, -⟩, ⟨a1, -⟩, a2, -⟩ := blk3 HM4.out
  go_wp2
  have HS4 := Lib.hid (HS.out.up HK4.out)
  go_loopg [13] n (fun gg iv wr => ∃ k : Nat, n ≤ gg + (4 * k + 3) ∧ 4 * k ≤ n ∧ iv = .int .i64 (4 * (k : Int) + 3) ∧ (∀ j, j < k → p.getD (4 * j + 3) 0 = 255) ∧ wr = w4)
  case atStart => exact ⟨0, by omega, by omega, rfl, fun j hj => absurd hj (by omega), rfl⟩
  case round =>
    obtain ⟨k, hgg, hkn, rfl, hall, rfl⟩ := hrel
    by_cases hk1 : 4 * k + 3 < n
    · have gy : decide (4 * (k : Int) + 3 < (n : Int)) = true := decide_eq_true (by omega)
      obtain ⟨b, off, rfl, hcell⟩ := HS4.out.2.resolve_left (by omega)
      have hcc := hcell (4 * k + 3) hk1
      obtain ⟨z, hz⟩ : ∃ z, p.getD (4 * k + 3) 0 = z := ⟨_, rfl⟩
      rw [hz] at hcc
      have l1 : 0 ≤ 4 * (k : Int) + 3 := by omega
      have l2 : 4 * (k : Int) + 3 < (n : Int) := by omega
      have t1 : (4 * (k : Int) + 3).toNat = 4 * k + 3 := by omega
      have w1' : IntKind.i64.wrap (4 * (k : Int) + 3 + 4) = 4 * (k : Int) + 3 + 4 := IntWalk.i64_in _ (by omega)
      have HALL := Lib.hid hall
      clear hcell hall
      by_cases h255 : z = 255
      · have gz : (z != 255) = false := by simp [h255]
        have HZ := Lib.hid (hz.trans h255)
        clear hz h255
        go_wp2
        go_roundg (gk - 1)
        case rel => exact ⟨k + 1, by omega, by omega, by go_num, fun j hj => by rcases Nat.lt_or_ge j k with h | h; exact HALL.out j h; rw [show j = k by omega]; exact HZ.out, rfl⟩
        case measure => omega
      · have gz : (z != 255) = true := by simp [h255]
        clear hz h255
        go_wp2
        go_ret
        exact ⟨rfl, HK4.out⟩
    · have gy : decide (4 * (k : Int) + 3 < (n : Int)) = false := decide_eq_false (by omega)
      have HD := HDC.out (fun j hj => hall j (by have := HN.out; omega))
      have HDD := Lib.hid HD
      clear HD hall HDC
      go_wp2_with fail
      refine (HCUT.out _ HS4.out).mono ?_; rintro e w5 ⟨v, rfl, ho5, hk, hf5⟩
      obtain ⟨av, cv, rfl, -⟩ := ho5.shape
      rw [HQ3.out] at ho5 hf5 ⊢
      have HM5 := Lib.hid (hk.blk HM4.out id)
      have HC5 := Lib.hid (hk.blk HC4.out id)
      have HK5 := Lib.hid (HK4.out.then hk)
      clear hk a0 a1 a2
      have O5 := Lib.hid ho5
      clear ho5 hf5
      obtain ⟨PQ, hPQ⟩ : ∃ P, w5.heap.size = P := ⟨_, rfl⟩
      obtain ⟨w6, hw6⟩ : ∃ V, w5.alloc (.cells #[.int .i64 C, .int .i64 D, .slice av L cv] 35) = V := ⟨_, rfl⟩
      have hk : Kept (fun _ => False) w5 w6 := by rw [← hw6]; exact (Kept.refl _ _).alloc _
      have Q6 := Lib.hid (show w6.heap[PQ]? = some (.cells #[.int .i64 C, .int .i64 D, .slice av L cv] 35 (0, 0)) by rw [← hw6]; exact blk_at _ _ hPQ.symm)
      have O6 := Lib.hid (O5.out.kept hk (fun _ _ => id))
      have HM6 := Lib.hid (hk.blk HM5.out id)
      have HC6 := Lib.hid (hk.blk HC5.out id)
      have HK6 := Lib.hid (HK5.out.then hk)
      clear hk 
      obtain ⟨⟨a0, -⟩, ⟨a1, -⟩, a2, -⟩ := blk3 HM6.out
      obtain ⟨⟨b0, -⟩, ⟨b1, -⟩, b2, -⟩ := blk3 Q6.out
      go_wp2_with fail
      refine (HDRAW.out _ av cv (HS.out.up HK6.out) O6.out.sl.1 O6.out.sl.2.1 O6.out.sl.2.2.1).mono ?_; rintro e w7 ⟨v, rfl, ho7, hk, hf7⟩
      rw [HDD.out] at ho7
      obtain ⟨dv, dc, rfl, -⟩ := ho7.shape
      rw [HPL.out] at ho7 hf7 ⊢
      have O7 := Lib.hid ho7
      have HM7 := Lib.hid (hk.blk HM6.out id)
      have HC7 := Lib.hid (hk.blk HC6.out id)
      have Q7 := Lib.hid (hk.blk Q6.out id)
      have HK7 := Lib.hid (HK6.out.then hk)
      clear hk a0 a1 a2 b0 b1 b2 ho7 hf7 hw6
      obtain ⟨PR, hPR⟩ : ∃ P, w7.heap.size = P := ⟨_, rfl⟩
      obtain ⟨w8, hw8⟩ : ∃ V, w7.alloc (.cells #[.int .i64 W, .int .i64 H, .slice dv n dc] 35) = V := ⟨_, rfl⟩
      have hk : Kept (fun _ => False) w7 w8 := by rw [← hw8]; exact (Kept.refl _ _).alloc _
      have R8 := Lib.hid (show w8.heap[PR]? = some (.cells #[.int .i64 W, .int .i64 H, .slice dv n dc] 35 (0, 0)) by rw [← hw8]; exact blk_at _ _ hPR.symm)
      have O8 := Lib.hid (O7.out.kept hk (fun _ _ => id))
      have HM8 := Lib.hid (hk.blk HM7.out id)
      have HC8 := Lib.hid (hk.blk HC7.out id)
      have Q8 := Lib.hid (hk.blk Q7.out id)
      have HK8 := Lib.hid (HK7.out.then hk)
      clear hk 
      obtain ⟨⟨a0, -⟩, ⟨a1, -⟩, a2, -⟩ := blk3 HM8.out
      obtain ⟨⟨k0, -⟩, ⟨k1, -⟩, ⟨k2, -⟩, k3, -⟩ := blk4 HC8.out
      go_wp2_with fail
      refine (HFILL.out _ (HS.out.up HK8.out)).mono ?_; rintro e w9 ⟨v, rfl, ho9, hk, hf9⟩
      obtain ⟨fv, fc, rfl, -⟩ := ho9.shape
      rw [HFL.out] at ho9 hf9 ⊢
      have O9 := Lib.hid ho9
      have D9 := Lib.hid (O8.out.kept hk (fun _ _ => id))
      have HM9 := Lib.hid (hk.blk HM8.out id)
      have HC9 := Lib.hid (hk.blk HC8.out id)
      have Q9 := Lib.hid (hk.blk Q8.out id)
      have R9 := Lib.hid (hk.blk R8.out id)
      have HK9 := Lib.hid (HK8.out.then hk)
      clear hk a0 a1 a2 k0 k1 k2 k3 ho9 hf9 hw8
      go_wp2_with fail
      refine (HCUT2.out _ fv fc O9.out.sl.1 O9.out.sl.2.1 O9.out.sl.2.2.1).mono ?_; rintro e w10 ⟨v, rfl, ho10, hk, hf10⟩
      obtain ⟨gv, gc, rfl, -⟩ := ho10.shape
      rw [HQ6.out] at ho10 hf10 ⊢
      have O10 := Lib.hid ho10
      have D10 := Lib.hid (D9.out.kept hk (fun _ _ => id))
      have HM10 := Lib.hid (hk.blk HM9.out id)
      have HC10 := Lib.hid (hk.blk HC9.out id)
      have Q10 := Lib.hid (hk.blk Q9.out id)
      have R10 := Lib.hid (hk.blk R9.out id)
      have HK10 := Lib.hid (HK9.out.then hk)
      clear hk ho10 hf10
      obtain ⟨PS, hPS⟩ : ∃ P, w10.heap.size = P := ⟨_, rfl⟩
      obtain ⟨w11, hw11⟩ : ∃ V, w10.alloc (.cells #[.int .i64 C, .int .i64 D, .slice gv L gc] 35) = V := ⟨_, rfl⟩
      have hk : Kept (fun _ => False) w10 w11 := by rw [← hw11]; exact (Kept.refl _ _).alloc _
      have S11 := Lib.hid (show w11.heap[PS]? = some (.cells #[.int .i64 C, .int .i64 D, .slice gv L gc] 35 (0, 0)) by rw [← hw11]; exact blk_at _ _ hPS.symm)
      have O11 := Lib.hid (O10.out.kept hk (fun _ _ => id))
      have D11 := Lib.hid (D10.out.kept hk (fun _ _ => id))
      have HM11 := Lib.hid (hk.blk HM10.out id)
      have HC11 := Lib.hid (hk.blk HC10.out id)
      have Q11 := Lib.hid (hk.blk Q10.out id)
      have R11 := Lib.hid (hk.blk R10.out id)
      have HK11 := Lib.hid (HK10.out.then hk)
      clear hk 
      obtain ⟨⟨a0, -⟩, ⟨a1, -⟩, a2, -⟩ := blk3 HM11.out
      obtain ⟨⟨b0, -⟩, ⟨b1, -⟩, b2, -⟩ := blk3 R11.out
      go_wp2_with fail
      refine (HSAME.out _ dv dc (HS.out.up HK11.out) D11.out.sl.1).mono ?_; rintro e w12 ⟨rfl, hk⟩
      have O12 := Lib.hid (O11.out.kept hk (fun _ _ => id))
      have HM12 := Lib.hid (hk.blk HM11.out id)
      have HC12 := Lib.hid (hk.blk HC11.out id)
      have Q12 := Lib.hid (hk.blk Q11.out id)
      have R12 := Lib.hid (hk.blk R11.out id)
      have S12 := Lib.hid (hk.blk S11.out id)
      have HK12 := Lib.hid (HK11.out.then hk)
      clear hk a0 a1 a2 b0 b1 b2 hw11
      obtain ⟨⟨a0, -⟩, ⟨a1, -⟩, a2, -⟩ := blk3 Q12.out
      obtain ⟨⟨b0, -⟩, ⟨b1, -⟩, b2, -⟩ := blk3 S12.out
      go_wp2
      go_loopg [17] L (fun gg iv wr => ∃ i : Nat, L ≤ gg + i ∧ i ≤ L ∧ iv = .int .i64 (i : Int) ∧ Kept (fun _ => False) w12 wr)
      case atStart => exact ⟨0, by omega, by omega, rfl, Kept.refl _ _⟩
      case round =>
        obtain ⟨i, hgg, hiL, rfl, hk⟩ := hrel
        have HS13 := Lib.hid (S12.out)
        have hKr := Lib.hid (HK12.out.then hk)
        have HKW := Lib.hid hk
        obtain ⟨⟨b0, -⟩, ⟨b1, -⟩, b2, -⟩ := blk3 (hk.blk S12.out id)
        have hcb4 := hk.blk HC12.out id
        by_cases hi1 : i < L
        · have gi : decide (i < L) = true := decide_eq_true hi1
          obtain ⟨b, off, rfl, hcell⟩ := (O12.out.kept hk (fun _ _ => id)).sl.1.2.resolve_left (by omega)
          have hcc := hcell i hi1
          have hval := HCFI.out i (by rw [HQ6.out]; exact hi1)
          obtain ⟨z, hz⟩ : ∃ z, fp.getD i 0 = z := ⟨_, rfl⟩
          obtain ⟨r, hr⟩ : ∃ r, i % 4 = r := ⟨_, rfl⟩
          have hr4 : r < 4 := by omega
          rw [hz] at hcc hval
          rw [hr] at hval
          have hce : wr.cell? ⟨w.heap.size + 1, r, none⟩ = some (.int .u8 z) := by
            rw [blk_cell hcb4, hval]
            match r, hr4 with
            | 0, _ | 1, _ | 2, _ | 3, _ => rfl
          have ht : (i : Int).tmod 4 = (r : Int) := by rw [Int.tmod_eq_emod_of_nonneg (by omega)]; omega
          have l1 : (0 : Int) ≤ (r : Int) := by omega
          have l2 : (r : Int) < 4 := by omega
          have l3 : (i : Int) < (L : Int) := by omega
          have w1' : IntKind.i64.wrap (r : Int) = (r : Int) := IntWalk.i64_in _ (by omega)
          clear hcell hz hr hval hcb4 hk a0 a1 a2 b0 b1
          go_wp2
          go_region
          go_wp2
          go_roundg (gk - 1)
          case rel => exact ⟨i + 1, by omega, by omega, by go_num, by first | exact HKW.out.drew | exact HKW.out.drewN _⟩
          case measure => omega
        · have gi : decide (i < L) = false := decide_eq_false hi1
          clear hk hcb4 b0 b1 a0 a1 a2
          go_wp2
          go_ret
          exact ⟨rfl, hKr.out⟩

theorem law_parts {mx my x y cw ch : Int} {a : Option Addr} {n cap : Nat} {zm : List Int} {c0 c1 c2 c3 : Int} {w : World} (f0 : (Lit.int .i64 mx).wf = true ∧ (Lit.int .i64 my).wf = true ∧ IsRow .u8 w a n cap zm)
    (f1 : (Lit.int .i64 x).wf = true) (f2 : (Lit.int .i64 y).wf = true) (f3 : (Lit.int .i64 cw).wf = true) (f4 : (Lit.int .i64 ch).wf = true)
    (f5 : (Lit.int .u8 c0).wf = true ∧ (Lit.int .u8 c1).wf = true ∧ (Lit.int .u8 c2).wf = true ∧ (Lit.int .u8 c3).wf = true) :
    Calls Try.prog 8 #[.agg #[.int .i64 mx, .int .i64 my, .slice a n cap], .int .i64 x, .int .i64 y, .int .i64 cw, .int .i64 ch, .agg #[.int .u8 c0, .int .u8 c1, .int .u8 c2, .int .u8 c3]] w fun e w' => e = .returned (.bool true) ∧ Below w.heap.size w w' := by
  refine Calls.mono (R := fun e w' => e = .returned (.bool true) ∧ Kept (fun _ => False) w w') ?_ fun _ _ h => ⟨h.1, h.2.below⟩
  obtain ⟨s1, l1, m1, b1, -, n1⟩ := f0.2.2.slAt
  by_cases h : 16384 < n
  · exact parts_few mx my (zm.take n) x y cw ch a n cap c0 c1 c2 c3 w (int_of_wf f0.1) (int_of_wf f0.2.1) s1.1 (by omega) h
  cases hr : rightM ⟨mx, my, zm.take n⟩ with
  | false => exact parts_wrong mx my (zm.take n) x y cw ch a n cap c0 c1 c2 c3 w (int_of_wf f0.1) (int_of_wf f0.2.1) s1.1 (by omega) (by omega) hr
  | true =>
    by_cases hx : x < 0 ∨ y < 0 ∨ 100 < x ∨ 100 < y
    · exact parts_far mx my (zm.take n) x y cw ch a n cap c0 c1 c2 c3 w (int_of_wf f0.1) (int_of_wf f0.2.1) s1.1 (by omega) (by omega) hr hx
    · obtain ⟨W, H, e1, e2⟩ := nats_of hr
      simp only at e1 e2
      subst e1
      subst e2
      exact parts_near W H (zm.take n) x y cw ch a n cap c0 c1 c2 c3 w (int_of_wf f3) (int_of_wf f4) (by omega) hr s1 (fun v hv => by have := byte_of_wf (b1 v hv); omega) l1 m1 n1 (by omega) (by omega) ⟨byte_of_wf f5.1, byte_of_wf f5.2.1, byte_of_wf f5.2.2.1, byte_of_wf f5.2.2.2⟩
end Go.Proofs.Ytgejefhnoloebaa
