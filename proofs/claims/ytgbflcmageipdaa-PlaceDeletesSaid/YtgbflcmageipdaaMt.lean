/- Match: whether a place is asked for. -/
import Derived.Test.YtgbflcmageipdaaMay
namespace Go.Proofs.Ytgbflcmageipdaa
open Go.RowKit
set_option linter.unusedVariables false
set_option linter.unusedSimpArgs false
/-- The letter, small. -/
def lowU (c : Int) : Int := if 65 ≤ c then (if c ≤ 90 then bits .or .u8 c 32 else c) else c
/-- What Match tells, by the small letter. -/
def matchU (u : Int) (a : Ask) (p : Pl) (v : Vw) : Bool :=
  if u = 105 ∨ u = 110 then p.im == a.im && (a.pl == 0 || p.id == a.pl)
  else if u = 114 then decide (a.x ≤ p.im) && decide (p.im ≤ a.y)
  else if p.alt ≠ v.alt then false
  else if u = 97 then meetsB p v.top v.rows 0 v.cols
  else if u = 99 then meetsB p (IntKind.i64.wrap (v.top + v.row)) 1 v.col (IntKind.i64.wrap (v.col + 1))
  else if u = 112 then meetsB p (IntKind.i64.wrap (IntKind.i64.wrap (v.top + a.y) - 1)) 1 (IntKind.i64.wrap (a.x - 1)) a.x
  else if u = 113 then meetsB p (IntKind.i64.wrap (IntKind.i64.wrap (v.top + a.y) - 1)) 1 (IntKind.i64.wrap (a.x - 1)) a.x && p.z == a.z
  else if u = 120 then meetsB p v.top v.rows (IntKind.i64.wrap (a.x - 1)) a.x
  else if u = 121 then meetsB p (IntKind.i64.wrap (IntKind.i64.wrap (v.top + a.y) - 1)) 1 0 1073741824
  else if u = 122 then p.z == a.z
  else false
def matchB (a : Ask) (p : Pl) (v : Vw) : Bool := matchU (lowU a.what) a p v
set_option maxRecDepth 100000 in
set_option maxHeartbeats 16000000 in
theorem match_lo (what aim apl ax ay az : Int) (im id : Int) (alt : Bool) (line col rows cols x y w h dx dy z : Int) (valt : Bool) (vtop vrows vcols vrow vcol : Int) (wd : World) (k0 : decide (65 ≤ what) = false) :
    Calls Try.prog 11 #[(⟨what, aim, apl, ax, ay, az⟩ : Ask).val, (⟨im, id, alt, line, col, rows, cols, x, y, w, h, dx, dy, z⟩ : Pl).val, (⟨valt, vtop, vrows, vcols, vrow, vcol⟩ : Vw).val] wd fun e w' => e = .returned (.bool (matchU what (⟨what, aim, apl, ax, ay, az⟩ : Ask) (⟨im, id, alt, line, col, rows, cols, x, y, w, h, dx, dy, z⟩ : Pl) (⟨valt, vtop, vrows, vcols, vrow, vcol⟩ : Vw))) ∧ Kept (fun _ => False) wd w' := by
  obtain ⟨W, hW⟩ : ∃ W, ((wd.alloc (.cells (⟨what, aim, apl, ax, ay, az⟩ : Ask).cs 24)).alloc (.cells (⟨im, id, alt, line, col, rows, cols, x, y, w, h, dx, dy, z⟩ : Pl).cs 34)).alloc (.cells (⟨valt, vtop, vrows, vcols, vrow, vcol⟩ : Vw).cs 26) = W := ⟨_, rfl⟩
  have hk : Kept (fun _ => False) wd W := by rw [← hW]; exact (((Kept.refl _ _).alloc _).alloc _).alloc _
  have hb0 : W.heap[wd.heap.size]? = some (.cells (⟨what, aim, apl, ax, ay, az⟩ : Ask).cs 24 (0, 0)) := by rw [← hW]; exact blk_alloc (blk_alloc (blk_new wd _) _) _
  have hb1 : W.heap[wd.heap.size + 1]? = some (.cells (⟨im, id, alt, line, col, rows, cols, x, y, w, h, dx, dy, z⟩ : Pl).cs 34 (0, 0)) := by rw [← hW]; exact blk_alloc (blk_at _ _ (by simp)) _
  have hb2 : W.heap[wd.heap.size + 2]? = some (.cells (⟨valt, vtop, vrows, vcols, vrow, vcol⟩ : Vw).cs 26 (0, 0)) := by rw [← hW]; exact blk_at _ _ (by simp)
  obtain ⟨y0, y1, y2, y3, y4, y5⟩ := blkA hb0
  obtain ⟨u0, u1, u2, u3, u4, u5, u6, u7, u8, u9, u10, u11, u12, u13⟩ := blk14 hb1
  obtain ⟨x0, x1, x2, x3, x4, x5⟩ := blkV hb2
  have HK := Lib.hid hk
  have HB0 := Lib.hid hb0
  have HB1 := Lib.hid hb1
  obtain ⟨r0, hr0⟩ : ∃ r, IntKind.i64.wrap (vtop + ay) = r := ⟨_, rfl⟩
  obtain ⟨r1, hr1⟩ : ∃ r, IntKind.i64.wrap (r0 - 1) = r := ⟨_, rfl⟩
  obtain ⟨r2, hr2⟩ : ∃ r, IntKind.i64.wrap (vtop + vrow) = r := ⟨_, rfl⟩
  obtain ⟨r3, hr3⟩ : ∃ r, IntKind.i64.wrap (vcol + 1) = r := ⟨_, rfl⟩
  obtain ⟨r4, hr4⟩ : ∃ r, IntKind.i64.wrap (ax - 1) = r := ⟨_, rfl⟩
  obtain ⟨B, hB⟩ : ∃ B, matchU what (⟨what, aim, apl, ax, ay, az⟩ : Ask) (⟨im, id, alt, line, col, rows, cols, x, y, w, h, dx, dy, z⟩ : Pl) (⟨valt, vtop, vrows, vcols, vrow, vcol⟩ : Vw) = B := ⟨_, rfl⟩
  have HM := Lib.hid (fun (l r f p : Int) (wd : World) => meets_any (⟨im, id, alt, line, col, rows, cols, x, y, w, h, dx, dy, z⟩ : Pl) l r f p wd)
  rw [hB]
  unfold matchU at hB
  simp only at hB
  rw [hr0, hr1, hr2, hr3, hr4] at hB
  unfold Ask.cs Vw.cs Pl.cs at hW
  unfold Pl.val at HM
  unfold Ask.val Vw.val Pl.val
  clear hk hb0 hb1 hb2
  simp only at *
  cases c0 : (what == 105) with
  | true =>
    have n0 : what = 105 := by simpa using c0
    rw [if_pos (by omega)] at hB
    clear n0
    cases d0 : (im == aim) with
    | false =>
      rw [d0] at hB
      obtain rfl : false = B := by rw [← hB]; rfl
      clear hB
      go_enter Try.func11, Try.ntmps11
      go_wp2
      go_ret
      exact ⟨rfl, HK.out⟩
    | true =>
      cases d1 : (apl == 0) with
      | true =>
        rw [d0, d1] at hB
        obtain rfl : true = B := by rw [← hB]; rfl
        clear hB
        go_enter Try.func11, Try.ntmps11
        go_wp2
        go_ret
        exact ⟨rfl, HK.out⟩
      | false =>
        rw [d0, d1] at hB
        obtain rfl : (id == apl) = B := by rw [← hB]; rfl
        clear hB
        go_enter Try.func11, Try.ntmps11
        go_wp2
        go_ret
        exact ⟨rfl, HK.out⟩
  | false =>
    have n0 : what ≠ 105 := by simpa using c0
    cases c1 : (what == 110) with
    | true =>
      have n1 : what = 110 := by simpa using c1
      rw [if_pos (by omega)] at hB
      clear n0
      clear n1
      cases d0 : (im == aim) with
      | false =>
        rw [d0] at hB
        obtain rfl : false = B := by rw [← hB]; rfl
        clear hB
        go_enter Try.func11, Try.ntmps11
        go_wp2
        go_ret
        exact ⟨rfl, HK.out⟩
      | true =>
        cases d1 : (apl == 0) with
        | true =>
          rw [d0, d1] at hB
          obtain rfl : true = B := by rw [← hB]; rfl
          clear hB
          go_enter Try.func11, Try.ntmps11
          go_wp2
          go_ret
          exact ⟨rfl, HK.out⟩
        | false =>
          rw [d0, d1] at hB
          obtain rfl : (id == apl) = B := by rw [← hB]; rfl
          clear hB
          go_enter Try.func11, Try.ntmps11
          go_wp2
          go_ret
          exact ⟨rfl, HK.out⟩
    | false =>
      have n1 : what ≠ 110 := by simpa using c1
      cases c2 : (what == 114) with
      | true =>
        have n2 : what = 114 := by simpa using c2
        rw [if_neg (by omega), if_pos n2] at hB
        clear n0
        clear n1
        clear n2
        cases d0 : decide (ax ≤ im) with
        | false =>
          rw [d0] at hB
          obtain rfl : false = B := by rw [← hB]; rfl
          clear hB
          go_enter Try.func11, Try.ntmps11
          go_wp2
          go_ret
          exact ⟨rfl, HK.out⟩
        | true =>
          rw [d0] at hB
          obtain rfl : decide (im ≤ ay) = B := by rw [← hB]; rfl
          clear hB
          go_enter Try.func11, Try.ntmps11
          go_wp2
          go_ret
          exact ⟨rfl, HK.out⟩
      | false =>
        have n2 : what ≠ 114 := by simpa using c2
        by_cases na : alt ≠ valt
        · rw [if_neg (by omega), if_neg (by omega), if_pos na] at hB
          subst hB
          clear n0
          clear n1
          clear n2
          cases alt <;> cases valt
          · exact absurd rfl na
          · clear na
            go_enter Try.func11, Try.ntmps11
            go_wp2
            go_ret
            exact ⟨rfl, HK.out⟩
          · clear na
            go_enter Try.func11, Try.ntmps11
            go_wp2
            go_ret
            exact ⟨rfl, HK.out⟩
          · exact absurd rfl na
        · have na2 : alt = valt := Classical.not_not.1 na
          subst na2
          cases c4 : (what == 97) with
          | true =>
            have n4 : what = 97 := by simpa using c4
            rw [if_neg (by omega), if_neg (by omega), if_neg na, if_pos n4] at hB
            subst hB
            clear n0
            clear n1
            clear n2
            clear n4
            clear na
            go_enter Try.func11, Try.ntmps11
            go_wp2_with (first
              | (go_at_call 21; refine (HM.out _ _ _ _ _).mono ?_; rintro e wm ⟨rfl, hkm⟩; have HKM := Lib.hid (HK.out.then hkm); have HKW := Lib.hid hkm; clear hkm))
            go_ret
            exact ⟨rfl, HKM.out⟩
          | false =>
            have n4 : what ≠ 97 := by simpa using c4
            cases c5 : (what == 99) with
            | true =>
              have n5 : what = 99 := by simpa using c5
              rw [if_neg (by omega), if_neg (by omega), if_neg na, if_neg (by omega), if_pos n5] at hB
              subst hB
              clear n0
              clear n1
              clear n2
              clear n4
              clear n5
              clear na
              go_enter Try.func11, Try.ntmps11
              go_wp2_with (first
                | (go_at_call 21; refine (HM.out _ _ _ _ _).mono ?_; rintro e wm ⟨rfl, hkm⟩; have HKM := Lib.hid (HK.out.then hkm); have HKW := Lib.hid hkm; clear hkm))
              go_ret
              exact ⟨rfl, HKM.out⟩
            | false =>
              have n5 : what ≠ 99 := by simpa using c5
              cases c6 : (what == 112) with
              | true =>
                have n6 : what = 112 := by simpa using c6
                rw [if_neg (by omega), if_neg (by omega), if_neg na, if_neg (by omega), if_neg (by omega), if_pos n6] at hB
                subst hB
                clear n0
                clear n1
                clear n2
                clear n4
                clear n5
                clear n6
                clear na
                go_enter Try.func11, Try.ntmps11
                go_wp2_with (first
                  | (go_at_call 21; refine (HM.out _ _ _ _ _).mono ?_; rintro e wm ⟨rfl, hkm⟩; have HKM := Lib.hid (HK.out.then hkm); have HKW := Lib.hid hkm; clear hkm))
                go_ret
                exact ⟨rfl, HKM.out⟩
              | false =>
                have n6 : what ≠ 112 := by simpa using c6
                cases c7 : (what == 113) with
                | true =>
                  have n7 : what = 113 := by simpa using c7
                  rw [if_neg (by omega), if_neg (by omega), if_neg na, if_neg (by omega), if_neg (by omega), if_neg (by omega), if_pos n7] at hB
                  clear n0
                  clear n1
                  clear n2
                  clear n4
                  clear n5
                  clear n6
                  clear n7
                  clear na
                  cases d0 : meetsB (⟨im, id, alt, line, col, rows, cols, x, y, w, h, dx, dy, z⟩ : Pl) r1 1 r4 ax with
                  | false =>
                    rw [d0] at hB
                    obtain rfl : false = B := by rw [← hB]; rfl
                    clear hB
                    go_enter Try.func11, Try.ntmps11
                    go_wp2_with (first
                      | (go_at_call 21; refine (HM.out _ _ _ _ _).mono ?_; rintro e wm ⟨rfl, hkm⟩; have HKM := Lib.hid (HK.out.then hkm); have HKW := Lib.hid hkm; clear hkm))
                    go_ret
                    exact ⟨rfl, HKM.out⟩
                  | true =>
                    rw [d0] at hB
                    obtain rfl : (z == az) = B := by rw [← hB]; rfl
                    clear hB
                    go_enter Try.func11, Try.ntmps11
                    go_wp2_with (first
                      | (go_at_call 21; refine (HM.out _ _ _ _ _).mono ?_; rintro e wm ⟨rfl, hkm⟩; have HKM := Lib.hid (HK.out.then hkm); have HKW := Lib.hid hkm; clear hkm; have cz : wm.cell? ⟨wd.heap.size + 1, 13, none⟩ = some (.int .i64 z) := blk_cell (HKW.out.blk HB1.out (fun h => h)) 13; have ca : wm.cell? ⟨wd.heap.size, 5, none⟩ = some (.int .i64 az) := blk_cell (HKW.out.blk HB0.out (fun h => h)) 5; clear HKW))
                    go_ret
                    exact ⟨rfl, HKM.out⟩
                | false =>
                  have n7 : what ≠ 113 := by simpa using c7
                  cases c8 : (what == 120) with
                  | true =>
                    have n8 : what = 120 := by simpa using c8
                    rw [if_neg (by omega), if_neg (by omega), if_neg na, if_neg (by omega), if_neg (by omega), if_neg (by omega), if_neg (by omega), if_pos n8] at hB
                    subst hB
                    clear n0
                    clear n1
                    clear n2
                    clear n4
                    clear n5
                    clear n6
                    clear n7
                    clear n8
                    clear na
                    go_enter Try.func11, Try.ntmps11
                    go_wp2_with (first
                      | (go_at_call 21; refine (HM.out _ _ _ _ _).mono ?_; rintro e wm ⟨rfl, hkm⟩; have HKM := Lib.hid (HK.out.then hkm); have HKW := Lib.hid hkm; clear hkm))
                    go_ret
                    exact ⟨rfl, HKM.out⟩
                  | false =>
                    have n8 : what ≠ 120 := by simpa using c8
                    cases c9 : (what == 121) with
                    | true =>
                      have n9 : what = 121 := by simpa using c9
                      rw [if_neg (by omega), if_neg (by omega), if_neg na, if_neg (by omega), if_neg (by omega), if_neg (by omega), if_neg (by omega), if_neg (by omega), if_pos n9] at hB
                      subst hB
                      clear n0
                      clear n1
                      clear n2
                      clear n4
                      clear n5
                      clear n6
                      clear n7
                      clear n8
                      clear n9
                      clear na
                      go_enter Try.func11, Try.ntmps11
                      go_wp2_with (first
                        | (go_at_call 21; refine (HM.out _ _ _ _ _).mono ?_; rintro e wm ⟨rfl, hkm⟩; have HKM := Lib.hid (HK.out.then hkm); have HKW := Lib.hid hkm; clear hkm))
                      go_ret
                      exact ⟨rfl, HKM.out⟩
                    | false =>
                      have n9 : what ≠ 121 := by simpa using c9
                      cases c10 : (what == 122) with
                      | true =>
                        have n10 : what = 122 := by simpa using c10
                        rw [if_neg (by omega), if_neg (by omega), if_neg na, if_neg (by omega), if_neg (by omega), if_neg (by omega), if_neg (by omega), if_neg (by omega), if_neg (by omega), if_pos n10] at hB
                        subst hB
                        clear n0
                        clear n1
                        clear n2
                        clear n4
                        clear n5
                        clear n6
                        clear n7
                        clear n8
                        clear n9
                        clear n10
                        clear na
                        go_enter Try.func11, Try.ntmps11
                        go_wp2
                        go_ret
                        exact ⟨rfl, HK.out⟩
                      | false =>
                        have n10 : what ≠ 122 := by simpa using c10
                        rw [if_neg (by omega), if_neg (by omega), if_neg na, if_neg (by omega), if_neg (by omega), if_neg (by omega), if_neg (by omega), if_neg (by omega), if_neg (by omega), if_neg (by omega)] at hB
                        subst hB
                        clear n0
                        clear n1
                        clear n2
                        clear n4
                        clear n5
                        clear n6
                        clear n7
                        clear n8
                        clear n9
                        clear n10
                        clear na
                        go_enter Try.func11, Try.ntmps11
                        go_wp2
                        go_ret
                        exact ⟨rfl, HK.out⟩
set_option maxRecDepth 100000 in
set_option maxHeartbeats 16000000 in
theorem match_hi (what aim apl ax ay az : Int) (im id : Int) (alt : Bool) (line col rows cols x y w h dx dy z : Int) (valt : Bool) (vtop vrows vcols vrow vcol : Int) (wd : World) (k0 : decide (65 ≤ what) = true) (k1 : decide (what ≤ 90) = false) :
    Calls Try.prog 11 #[(⟨what, aim, apl, ax, ay, az⟩ : Ask).val, (⟨im, id, alt, line, col, rows, cols, x, y, w, h, dx, dy, z⟩ : Pl).val, (⟨valt, vtop, vrows, vcols, vrow, vcol⟩ : Vw).val] wd fun e w' => e = .returned (.bool (matchU what (⟨what, aim, apl, ax, ay, az⟩ : Ask) (⟨im, id, alt, line, col, rows, cols, x, y, w, h, dx, dy, z⟩ : Pl) (⟨valt, vtop, vrows, vcols, vrow, vcol⟩ : Vw))) ∧ Kept (fun _ => False) wd w' := by
  obtain ⟨W, hW⟩ : ∃ W, ((wd.alloc (.cells (⟨what, aim, apl, ax, ay, az⟩ : Ask).cs 24)).alloc (.cells (⟨im, id, alt, line, col, rows, cols, x, y, w, h, dx, dy, z⟩ : Pl).cs 34)).alloc (.cells (⟨valt, vtop, vrows, vcols, vrow, vcol⟩ : Vw).cs 26) = W := ⟨_, rfl⟩
  have hk : Kept (fun _ => False) wd W := by rw [← hW]; exact (((Kept.refl _ _).alloc _).alloc _).alloc _
  have hb0 : W.heap[wd.heap.size]? = some (.cells (⟨what, aim, apl, ax, ay, az⟩ : Ask).cs 24 (0, 0)) := by rw [← hW]; exact blk_alloc (blk_alloc (blk_new wd _) _) _
  have hb1 : W.heap[wd.heap.size + 1]? = some (.cells (⟨im, id, alt, line, col, rows, cols, x, y, w, h, dx, dy, z⟩ : Pl).cs 34 (0, 0)) := by rw [← hW]; exact blk_alloc (blk_at _ _ (by simp)) _
  have hb2 : W.heap[wd.heap.size + 2]? = some (.cells (⟨valt, vtop, vrows, vcols, vrow, vcol⟩ : Vw).cs 26 (0, 0)) := by rw [← hW]; exact blk_at _ _ (by simp)
  obtain ⟨y0, y1, y2, y3, y4, y5⟩ := blkA hb0
  obtain ⟨u0, u1, u2, u3, u4, u5, u6, u7, u8, u9, u10, u11, u12, u13⟩ := blk14 hb1
  obtain ⟨x0, x1, x2, x3, x4, x5⟩ := blkV hb2
  have HK := Lib.hid hk
  have HB0 := Lib.hid hb0
  have HB1 := Lib.hid hb1
  obtain ⟨r0, hr0⟩ : ∃ r, IntKind.i64.wrap (vtop + ay) = r := ⟨_, rfl⟩
  obtain ⟨r1, hr1⟩ : ∃ r, IntKind.i64.wrap (r0 - 1) = r := ⟨_, rfl⟩
  obtain ⟨r2, hr2⟩ : ∃ r, IntKind.i64.wrap (vtop + vrow) = r := ⟨_, rfl⟩
  obtain ⟨r3, hr3⟩ : ∃ r, IntKind.i64.wrap (vcol + 1) = r := ⟨_, rfl⟩
  obtain ⟨r4, hr4⟩ : ∃ r, IntKind.i64.wrap (ax - 1) = r := ⟨_, rfl⟩
  obtain ⟨B, hB⟩ : ∃ B, matchU what (⟨what, aim, apl, ax, ay, az⟩ : Ask) (⟨im, id, alt, line, col, rows, cols, x, y, w, h, dx, dy, z⟩ : Pl) (⟨valt, vtop, vrows, vcols, vrow, vcol⟩ : Vw) = B := ⟨_, rfl⟩
  have HM := Lib.hid (fun (l r f p : Int) (wd : World) => meets_any (⟨im, id, alt, line, col, rows, cols, x, y, w, h, dx, dy, z⟩ : Pl) l r f p wd)
  rw [hB]
  unfold matchU at hB
  simp only at hB
  rw [hr0, hr1, hr2, hr3, hr4] at hB
  unfold Ask.cs Vw.cs Pl.cs at hW
  unfold Pl.val at HM
  unfold Ask.val Vw.val Pl.val
  clear hk hb0 hb1 hb2
  simp only at *
  cases c0 : (what == 105) with
  | true =>
    have n0 : what = 105 := by simpa using c0
    rw [if_pos (by omega)] at hB
    clear n0
    cases d0 : (im == aim) with
    | false =>
      rw [d0] at hB
      obtain rfl : false = B := by rw [← hB]; rfl
      clear hB
      go_enter Try.func11, Try.ntmps11
      go_wp2
      go_ret
      exact ⟨rfl, HK.out⟩
    | true =>
      cases d1 : (apl == 0) with
      | true =>
        rw [d0, d1] at hB
        obtain rfl : true = B := by rw [← hB]; rfl
        clear hB
        go_enter Try.func11, Try.ntmps11
        go_wp2
        go_ret
        exact ⟨rfl, HK.out⟩
      | false =>
        rw [d0, d1] at hB
        obtain rfl : (id == apl) = B := by rw [← hB]; rfl
        clear hB
        go_enter Try.func11, Try.ntmps11
        go_wp2
        go_ret
        exact ⟨rfl, HK.out⟩
  | false =>
    have n0 : what ≠ 105 := by simpa using c0
    cases c1 : (what == 110) with
    | true =>
      have n1 : what = 110 := by simpa using c1
      rw [if_pos (by omega)] at hB
      clear n0
      clear n1
      cases d0 : (im == aim) with
      | false =>
        rw [d0] at hB
        obtain rfl : false = B := by rw [← hB]; rfl
        clear hB
        go_enter Try.func11, Try.ntmps11
        go_wp2
        go_ret
        exact ⟨rfl, HK.out⟩
      | true =>
        cases d1 : (apl == 0) with
        | true =>
          rw [d0, d1] at hB
          obtain rfl : true = B := by rw [← hB]; rfl
          clear hB
          go_enter Try.func11, Try.ntmps11
          go_wp2
          go_ret
          exact ⟨rfl, HK.out⟩
        | false =>
          rw [d0, d1] at hB
          obtain rfl : (id == apl) = B := by rw [← hB]; rfl
          clear hB
          go_enter Try.func11, Try.ntmps11
          go_wp2
          go_ret
          exact ⟨rfl, HK.out⟩
    | false =>
      have n1 : what ≠ 110 := by simpa using c1
      cases c2 : (what == 114) with
      | true =>
        have n2 : what = 114 := by simpa using c2
        rw [if_neg (by omega), if_pos n2] at hB
        clear n0
        clear n1
        clear n2
        cases d0 : decide (ax ≤ im) with
        | false =>
          rw [d0] at hB
          obtain rfl : false = B := by rw [← hB]; rfl
          clear hB
          go_enter Try.func11, Try.ntmps11
          go_wp2
          go_ret
          exact ⟨rfl, HK.out⟩
        | true =>
          rw [d0] at hB
          obtain rfl : decide (im ≤ ay) = B := by rw [← hB]; rfl
          clear hB
          go_enter Try.func11, Try.ntmps11
          go_wp2
          go_ret
          exact ⟨rfl, HK.out⟩
      | false =>
        have n2 : what ≠ 114 := by simpa using c2
        by_cases na : alt ≠ valt
        · rw [if_neg (by omega), if_neg (by omega), if_pos na] at hB
          subst hB
          clear n0
          clear n1
          clear n2
          cases alt <;> cases valt
          · exact absurd rfl na
          · clear na
            go_enter Try.func11, Try.ntmps11
            go_wp2
            go_ret
            exact ⟨rfl, HK.out⟩
          · clear na
            go_enter Try.func11, Try.ntmps11
            go_wp2
            go_ret
            exact ⟨rfl, HK.out⟩
          · exact absurd rfl na
        · have na2 : alt = valt := Classical.not_not.1 na
          subst na2
          cases c4 : (what == 97) with
          | true =>
            have n4 : what = 97 := by simpa using c4
            rw [if_neg (by omega), if_neg (by omega), if_neg na, if_pos n4] at hB
            subst hB
            clear n0
            clear n1
            clear n2
            clear n4
            clear na
            go_enter Try.func11, Try.ntmps11
            go_wp2_with (first
              | (go_at_call 21; refine (HM.out _ _ _ _ _).mono ?_; rintro e wm ⟨rfl, hkm⟩; have HKM := Lib.hid (HK.out.then hkm); have HKW := Lib.hid hkm; clear hkm))
            go_ret
            exact ⟨rfl, HKM.out⟩
          | false =>
            have n4 : what ≠ 97 := by simpa using c4
            cases c5 : (what == 99) with
            | true =>
              have n5 : what = 99 := by simpa using c5
              rw [if_neg (by omega), if_neg (by omega), if_neg na, if_neg (by omega), if_pos n5] at hB
              subst hB
              clear n0
              clear n1
              clear n2
              clear n4
              clear n5
              clear na
              go_enter Try.func11, Try.ntmps11
              go_wp2_with (first
                | (go_at_call 21; refine (HM.out _ _ _ _ _).mono ?_; rintro e wm ⟨rfl, hkm⟩; have HKM := Lib.hid (HK.out.then hkm); have HKW := Lib.hid hkm; clear hkm))
              go_ret
              exact ⟨rfl, HKM.out⟩
            | false =>
              have n5 : what ≠ 99 := by simpa using c5
              cases c6 : (what == 112) with
              | true =>
                have n6 : what = 112 := by simpa using c6
                rw [if_neg (by omega), if_neg (by omega), if_neg na, if_neg (by omega), if_neg (by omega), if_pos n6] at hB
                subst hB
                clear n0
                clear n1
                clear n2
                clear n4
                clear n5
                clear n6
                clear na
                go_enter Try.func11, Try.ntmps11
                go_wp2_with (first
                  | (go_at_call 21; refine (HM.out _ _ _ _ _).mono ?_; rintro e wm ⟨rfl, hkm⟩; have HKM := Lib.hid (HK.out.then hkm); have HKW := Lib.hid hkm; clear hkm))
                go_ret
                exact ⟨rfl, HKM.out⟩
              | false =>
                have n6 : what ≠ 112 := by simpa using c6
                cases c7 : (what == 113) with
                | true =>
                  have n7 : what = 113 := by simpa using c7
                  rw [if_neg (by omega), if_neg (by omega), if_neg na, if_neg (by omega), if_neg (by omega), if_neg (by omega), if_pos n7] at hB
                  clear n0
                  clear n1
                  clear n2
                  clear n4
                  clear n5
                  clear n6
                  clear n7
                  clear na
                  cases d0 : meetsB (⟨im, id, alt, line, col, rows, cols, x, y, w, h, dx, dy, z⟩ : Pl) r1 1 r4 ax with
                  | false =>
                    rw [d0] at hB
                    obtain rfl : false = B := by rw [← hB]; rfl
                    clear hB
                    go_enter Try.func11, Try.ntmps11
                    go_wp2_with (first
                      | (go_at_call 21; refine (HM.out _ _ _ _ _).mono ?_; rintro e wm ⟨rfl, hkm⟩; have HKM := Lib.hid (HK.out.then hkm); have HKW := Lib.hid hkm; clear hkm))
                    go_ret
                    exact ⟨rfl, HKM.out⟩
                  | true =>
                    rw [d0] at hB
                    obtain rfl : (z == az) = B := by rw [← hB]; rfl
                    clear hB
                    go_enter Try.func11, Try.ntmps11
                    go_wp2_with (first
                      | (go_at_call 21; refine (HM.out _ _ _ _ _).mono ?_; rintro e wm ⟨rfl, hkm⟩; have HKM := Lib.hid (HK.out.then hkm); have HKW := Lib.hid hkm; clear hkm; have cz : wm.cell? ⟨wd.heap.size + 1, 13, none⟩ = some (.int .i64 z) := blk_cell (HKW.out.blk HB1.out (fun h => h)) 13; have ca : wm.cell? ⟨wd.heap.size, 5, none⟩ = some (.int .i64 az) := blk_cell (HKW.out.blk HB0.out (fun h => h)) 5; clear HKW))
                    go_ret
                    exact ⟨rfl, HKM.out⟩
                | false =>
                  have n7 : what ≠ 113 := by simpa using c7
                  cases c8 : (what == 120) with
                  | true =>
                    have n8 : what = 120 := by simpa using c8
                    rw [if_neg (by omega), if_neg (by omega), if_neg na, if_neg (by omega), if_neg (by omega), if_neg (by omega), if_neg (by omega), if_pos n8] at hB
                    subst hB
                    clear n0
                    clear n1
                    clear n2
                    clear n4
                    clear n5
                    clear n6
                    clear n7
                    clear n8
                    clear na
                    go_enter Try.func11, Try.ntmps11
                    go_wp2_with (first
                      | (go_at_call 21; refine (HM.out _ _ _ _ _).mono ?_; rintro e wm ⟨rfl, hkm⟩; have HKM := Lib.hid (HK.out.then hkm); have HKW := Lib.hid hkm; clear hkm))
                    go_ret
                    exact ⟨rfl, HKM.out⟩
                  | false =>
                    have n8 : what ≠ 120 := by simpa using c8
                    cases c9 : (what == 121) with
                    | true =>
                      have n9 : what = 121 := by simpa using c9
                      rw [if_neg (by omega), if_neg (by omega), if_neg na, if_neg (by omega), if_neg (by omega), if_neg (by omega), if_neg (by omega), if_neg (by omega), if_pos n9] at hB
                      subst hB
                      clear n0
                      clear n1
                      clear n2
                      clear n4
                      clear n5
                      clear n6
                      clear n7
                      clear n8
                      clear n9
                      clear na
                      go_enter Try.func11, Try.ntmps11
                      go_wp2_with (first
                        | (go_at_call 21; refine (HM.out _ _ _ _ _).mono ?_; rintro e wm ⟨rfl, hkm⟩; have HKM := Lib.hid (HK.out.then hkm); have HKW := Lib.hid hkm; clear hkm))
                      go_ret
                      exact ⟨rfl, HKM.out⟩
                    | false =>
                      have n9 : what ≠ 121 := by simpa using c9
                      cases c10 : (what == 122) with
                      | true =>
                        have n10 : what = 122 := by simpa using c10
                        rw [if_neg (by omega), if_neg (by omega), if_neg na, if_neg (by omega), if_neg (by omega), if_neg (by omega), if_neg (by omega), if_neg (by omega), if_neg (by omega), if_pos n10] at hB
                        subst hB
                        clear n0
                        clear n1
                        clear n2
                        clear n4
                        clear n5
                        clear n6
                        clear n7
                        clear n8
                        clear n9
                        clear n10
                        clear na
                        go_enter Try.func11, Try.ntmps11
                        go_wp2
                        go_ret
                        exact ⟨rfl, HK.out⟩
                      | false =>
                        have n10 : what ≠ 122 := by simpa using c10
                        rw [if_neg (by omega), if_neg (by omega), if_neg na, if_neg (by omega), if_neg (by omega), if_neg (by omega), if_neg (by omega), if_neg (by omega), if_neg (by omega), if_neg (by omega)] at hB
                        subst hB
                        clear n0
                        clear n1
                        clear n2
                        clear n4
                        clear n5
                        clear n6
                        clear n7
                        clear n8
                        clear n9
                        clear n10
                        clear na
                        go_enter Try.func11, Try.ntmps11
                        go_wp2
                        go_ret
                        exact ⟨rfl, HK.out⟩
set_option maxRecDepth 100000 in
set_option maxHeartbeats 16000000 in
theorem match_up (what aim apl ax ay az : Int) (im id : Int) (alt : Bool) (line col rows cols x y w h dx dy z : Int) (valt : Bool) (vtop vrows vcols vrow vcol : Int) (u : Int) (wd : World) (k0 : decide (65 ≤ what) = true) (k1 : decide (what ≤ 90) = true) (k2 : bits BinOp.or .u8 what 32 = u) :
    Calls Try.prog 11 #[(⟨what, aim, apl, ax, ay, az⟩ : Ask).val, (⟨im, id, alt, line, col, rows, cols, x, y, w, h, dx, dy, z⟩ : Pl).val, (⟨valt, vtop, vrows, vcols, vrow, vcol⟩ : Vw).val] wd fun e w' => e = .returned (.bool (matchU u (⟨what, aim, apl, ax, ay, az⟩ : Ask) (⟨im, id, alt, line, col, rows, cols, x, y, w, h, dx, dy, z⟩ : Pl) (⟨valt, vtop, vrows, vcols, vrow, vcol⟩ : Vw))) ∧ Kept (fun _ => False) wd w' := by
  obtain ⟨W, hW⟩ : ∃ W, ((wd.alloc (.cells (⟨what, aim, apl, ax, ay, az⟩ : Ask).cs 24)).alloc (.cells (⟨im, id, alt, line, col, rows, cols, x, y, w, h, dx, dy, z⟩ : Pl).cs 34)).alloc (.cells (⟨valt, vtop, vrows, vcols, vrow, vcol⟩ : Vw).cs 26) = W := ⟨_, rfl⟩
  have hk : Kept (fun _ => False) wd W := by rw [← hW]; exact (((Kept.refl _ _).alloc _).alloc _).alloc _
  have hb0 : W.heap[wd.heap.size]? = some (.cells (⟨what, aim, apl, ax, ay, az⟩ : Ask).cs 24 (0, 0)) := by rw [← hW]; exact blk_alloc (blk_alloc (blk_new wd _) _) _
  have hb1 : W.heap[wd.heap.size + 1]? = some (.cells (⟨im, id, alt, line, col, rows, cols, x, y, w, h, dx, dy, z⟩ : Pl).cs 34 (0, 0)) := by rw [← hW]; exact blk_alloc (blk_at _ _ (by simp)) _
  have hb2 : W.heap[wd.heap.size + 2]? = some (.cells (⟨valt, vtop, vrows, vcols, vrow, vcol⟩ : Vw).cs 26 (0, 0)) := by rw [← hW]; exact blk_at _ _ (by simp)
  obtain ⟨y0, y1, y2, y3, y4, y5⟩ := blkA hb0
  obtain ⟨u0, u1, u2, u3, u4, u5, u6, u7, u8, u9, u10, u11, u12, u13⟩ := blk14 hb1
  obtain ⟨x0, x1, x2, x3, x4, x5⟩ := blkV hb2
  have HK := Lib.hid hk
  have HB0 := Lib.hid hb0
  have HB1 := Lib.hid hb1
  obtain ⟨r0, hr0⟩ : ∃ r, IntKind.i64.wrap (vtop + ay) = r := ⟨_, rfl⟩
  obtain ⟨r1, hr1⟩ : ∃ r, IntKind.i64.wrap (r0 - 1) = r := ⟨_, rfl⟩
  obtain ⟨r2, hr2⟩ : ∃ r, IntKind.i64.wrap (vtop + vrow) = r := ⟨_, rfl⟩
  obtain ⟨r3, hr3⟩ : ∃ r, IntKind.i64.wrap (vcol + 1) = r := ⟨_, rfl⟩
  obtain ⟨r4, hr4⟩ : ∃ r, IntKind.i64.wrap (ax - 1) = r := ⟨_, rfl⟩
  obtain ⟨B, hB⟩ : ∃ B, matchU u (⟨what, aim, apl, ax, ay, az⟩ : Ask) (⟨im, id, alt, line, col, rows, cols, x, y, w, h, dx, dy, z⟩ : Pl) (⟨valt, vtop, vrows, vcols, vrow, vcol⟩ : Vw) = B := ⟨_, rfl⟩
  have HM := Lib.hid (fun (l r f p : Int) (wd : World) => meets_any (⟨im, id, alt, line, col, rows, cols, x, y, w, h, dx, dy, z⟩ : Pl) l r f p wd)
  rw [hB]
  unfold matchU at hB
  simp only at hB
  rw [hr0, hr1, hr2, hr3, hr4] at hB
  unfold Ask.cs Vw.cs Pl.cs at hW
  unfold Pl.val at HM
  unfold Ask.val Vw.val Pl.val
  clear hk hb0 hb1 hb2
  simp only at *
  cases c0 : (u == 105) with
  | true =>
    have n0 : u = 105 := by simpa using c0
    rw [if_pos (by omega)] at hB
    clear n0
    cases d0 : (im == aim) with
    | false =>
      rw [d0] at hB
      obtain rfl : false = B := by rw [← hB]; rfl
      clear hB
      go_enter Try.func11, Try.ntmps11
      go_wp2
      go_ret
      exact ⟨rfl, HK.out⟩
    | true =>
      cases d1 : (apl == 0) with
      | true =>
        rw [d0, d1] at hB
        obtain rfl : true = B := by rw [← hB]; rfl
        clear hB
        go_enter Try.func11, Try.ntmps11
        go_wp2
        go_ret
        exact ⟨rfl, HK.out⟩
      | false =>
        rw [d0, d1] at hB
        obtain rfl : (id == apl) = B := by rw [← hB]; rfl
        clear hB
        go_enter Try.func11, Try.ntmps11
        go_wp2
        go_ret
        exact ⟨rfl, HK.out⟩
  | false =>
    have n0 : u ≠ 105 := by simpa using c0
    cases c1 : (u == 110) with
    | true =>
      have n1 : u = 110 := by simpa using c1
      rw [if_pos (by omega)] at hB
      clear n0
      clear n1
      cases d0 : (im == aim) with
      | false =>
        rw [d0] at hB
        obtain rfl : false = B := by rw [← hB]; rfl
        clear hB
        go_enter Try.func11, Try.ntmps11
        go_wp2
        go_ret
        exact ⟨rfl, HK.out⟩
      | true =>
        cases d1 : (apl == 0) with
        | true =>
          rw [d0, d1] at hB
          obtain rfl : true = B := by rw [← hB]; rfl
          clear hB
          go_enter Try.func11, Try.ntmps11
          go_wp2
          go_ret
          exact ⟨rfl, HK.out⟩
        | false =>
          rw [d0, d1] at hB
          obtain rfl : (id == apl) = B := by rw [← hB]; rfl
          clear hB
          go_enter Try.func11, Try.ntmps11
          go_wp2
          go_ret
          exact ⟨rfl, HK.out⟩
    | false =>
      have n1 : u ≠ 110 := by simpa using c1
      cases c2 : (u == 114) with
      | true =>
        have n2 : u = 114 := by simpa using c2
        rw [if_neg (by omega), if_pos n2] at hB
        clear n0
        clear n1
        clear n2
        cases d0 : decide (ax ≤ im) with
        | false =>
          rw [d0] at hB
          obtain rfl : false = B := by rw [← hB]; rfl
          clear hB
          go_enter Try.func11, Try.ntmps11
          go_wp2
          go_ret
          exact ⟨rfl, HK.out⟩
        | true =>
          rw [d0] at hB
          obtain rfl : decide (im ≤ ay) = B := by rw [← hB]; rfl
          clear hB
          go_enter Try.func11, Try.ntmps11
          go_wp2
          go_ret
          exact ⟨rfl, HK.out⟩
      | false =>
        have n2 : u ≠ 114 := by simpa using c2
        by_cases na : alt ≠ valt
        · rw [if_neg (by omega), if_neg (by omega), if_pos na] at hB
          subst hB
          clear n0
          clear n1
          clear n2
          cases alt <;> cases valt
          · exact absurd rfl na
          · clear na
            go_enter Try.func11, Try.ntmps11
            go_wp2
            go_ret
            exact ⟨rfl, HK.out⟩
          · clear na
            go_enter Try.func11, Try.ntmps11
            go_wp2
            go_ret
            exact ⟨rfl, HK.out⟩
          · exact absurd rfl na
        · have na2 : alt = valt := Classical.not_not.1 na
          subst na2
          cases c4 : (u == 97) with
          | true =>
            have n4 : u = 97 := by simpa using c4
            rw [if_neg (by omega), if_neg (by omega), if_neg na, if_pos n4] at hB
            subst hB
            clear n0
            clear n1
            clear n2
            clear n4
            clear na
            go_enter Try.func11, Try.ntmps11
            go_wp2_with (first
              | (go_at_call 21; refine (HM.out _ _ _ _ _).mono ?_; rintro e wm ⟨rfl, hkm⟩; have HKM := Lib.hid (HK.out.then hkm); have HKW := Lib.hid hkm; clear hkm))
            go_ret
            exact ⟨rfl, HKM.out⟩
          | false =>
            have n4 : u ≠ 97 := by simpa using c4
            cases c5 : (u == 99) with
            | true =>
              have n5 : u = 99 := by simpa using c5
              rw [if_neg (by omega), if_neg (by omega), if_neg na, if_neg (by omega), if_pos n5] at hB
              subst hB
              clear n0
              clear n1
              clear n2
              clear n4
              clear n5
              clear na
              go_enter Try.func11, Try.ntmps11
              go_wp2_with (first
                | (go_at_call 21; refine (HM.out _ _ _ _ _).mono ?_; rintro e wm ⟨rfl, hkm⟩; have HKM := Lib.hid (HK.out.then hkm); have HKW := Lib.hid hkm; clear hkm))
              go_ret
              exact ⟨rfl, HKM.out⟩
            | false =>
              have n5 : u ≠ 99 := by simpa using c5
              cases c6 : (u == 112) with
              | true =>
                have n6 : u = 112 := by simpa using c6
                rw [if_neg (by omega), if_neg (by omega), if_neg na, if_neg (by omega), if_neg (by omega), if_pos n6] at hB
                subst hB
                clear n0
                clear n1
                clear n2
                clear n4
                clear n5
                clear n6
                clear na
                go_enter Try.func11, Try.ntmps11
                go_wp2_with (first
                  | (go_at_call 21; refine (HM.out _ _ _ _ _).mono ?_; rintro e wm ⟨rfl, hkm⟩; have HKM := Lib.hid (HK.out.then hkm); have HKW := Lib.hid hkm; clear hkm))
                go_ret
                exact ⟨rfl, HKM.out⟩
              | false =>
                have n6 : u ≠ 112 := by simpa using c6
                cases c7 : (u == 113) with
                | true =>
                  have n7 : u = 113 := by simpa using c7
                  rw [if_neg (by omega), if_neg (by omega), if_neg na, if_neg (by omega), if_neg (by omega), if_neg (by omega), if_pos n7] at hB
                  clear n0
                  clear n1
                  clear n2
                  clear n4
                  clear n5
                  clear n6
                  clear n7
                  clear na
                  cases d0 : meetsB (⟨im, id, alt, line, col, rows, cols, x, y, w, h, dx, dy, z⟩ : Pl) r1 1 r4 ax with
                  | false =>
                    rw [d0] at hB
                    obtain rfl : false = B := by rw [← hB]; rfl
                    clear hB
                    go_enter Try.func11, Try.ntmps11
                    go_wp2_with (first
                      | (go_at_call 21; refine (HM.out _ _ _ _ _).mono ?_; rintro e wm ⟨rfl, hkm⟩; have HKM := Lib.hid (HK.out.then hkm); have HKW := Lib.hid hkm; clear hkm))
                    go_ret
                    exact ⟨rfl, HKM.out⟩
                  | true =>
                    rw [d0] at hB
                    obtain rfl : (z == az) = B := by rw [← hB]; rfl
                    clear hB
                    go_enter Try.func11, Try.ntmps11
                    go_wp2_with (first
                      | (go_at_call 21; refine (HM.out _ _ _ _ _).mono ?_; rintro e wm ⟨rfl, hkm⟩; have HKM := Lib.hid (HK.out.then hkm); have HKW := Lib.hid hkm; clear hkm; have cz : wm.cell? ⟨wd.heap.size + 1, 13, none⟩ = some (.int .i64 z) := blk_cell (HKW.out.blk HB1.out (fun h => h)) 13; have ca : wm.cell? ⟨wd.heap.size, 5, none⟩ = some (.int .i64 az) := blk_cell (HKW.out.blk HB0.out (fun h => h)) 5; clear HKW))
                    go_ret
                    exact ⟨rfl, HKM.out⟩
                | false =>
                  have n7 : u ≠ 113 := by simpa using c7
                  cases c8 : (u == 120) with
                  | true =>
                    have n8 : u = 120 := by simpa using c8
                    rw [if_neg (by omega), if_neg (by omega), if_neg na, if_neg (by omega), if_neg (by omega), if_neg (by omega), if_neg (by omega), if_pos n8] at hB
                    subst hB
                    clear n0
                    clear n1
                    clear n2
                    clear n4
                    clear n5
                    clear n6
                    clear n7
                    clear n8
                    clear na
                    go_enter Try.func11, Try.ntmps11
                    go_wp2_with (first
                      | (go_at_call 21; refine (HM.out _ _ _ _ _).mono ?_; rintro e wm ⟨rfl, hkm⟩; have HKM := Lib.hid (HK.out.then hkm); have HKW := Lib.hid hkm; clear hkm))
                    go_ret
                    exact ⟨rfl, HKM.out⟩
                  | false =>
                    have n8 : u ≠ 120 := by simpa using c8
                    cases c9 : (u == 121) with
                    | true =>
                      have n9 : u = 121 := by simpa using c9
                      rw [if_neg (by omega), if_neg (by omega), if_neg na, if_neg (by omega), if_neg (by omega), if_neg (by omega), if_neg (by omega), if_neg (by omega), if_pos n9] at hB
                      subst hB
                      clear n0
                      clear n1
                      clear n2
                      clear n4
                      clear n5
                      clear n6
                      clear n7
                      clear n8
                      clear n9
                      clear na
                      go_enter Try.func11, Try.ntmps11
                      go_wp2_with (first
                        | (go_at_call 21; refine (HM.out _ _ _ _ _).mono ?_; rintro e wm ⟨rfl, hkm⟩; have HKM := Lib.hid (HK.out.then hkm); have HKW := Lib.hid hkm; clear hkm))
                      go_ret
                      exact ⟨rfl, HKM.out⟩
                    | false =>
                      have n9 : u ≠ 121 := by simpa using c9
                      cases c10 : (u == 122) with
                      | true =>
                        have n10 : u = 122 := by simpa using c10
                        rw [if_neg (by omega), if_neg (by omega), if_neg na, if_neg (by omega), if_neg (by omega), if_neg (by omega), if_neg (by omega), if_neg (by omega), if_neg (by omega), if_pos n10] at hB
                        subst hB
                        clear n0
                        clear n1
                        clear n2
                        clear n4
                        clear n5
                        clear n6
                        clear n7
                        clear n8
                        clear n9
                        clear n10
                        clear na
                        go_enter Try.func11, Try.ntmps11
                        go_wp2
                        go_ret
                        exact ⟨rfl, HK.out⟩
                      | false =>
                        have n10 : u ≠ 122 := by simpa using c10
                        rw [if_neg (by omega), if_neg (by omega), if_neg na, if_neg (by omega), if_neg (by omega), if_neg (by omega), if_neg (by omega), if_neg (by omega), if_neg (by omega), if_neg (by omega)] at hB
                        subst hB
                        clear n0
                        clear n1
                        clear n2
                        clear n4
                        clear n5
                        clear n6
                        clear n7
                        clear n8
                        clear n9
                        clear n10
                        clear na
                        go_enter Try.func11, Try.ntmps11
                        go_wp2
                        go_ret
                        exact ⟨rfl, HK.out⟩
theorem match_any (a : Ask) (p : Pl) (v : Vw) (wd : World) : Calls Try.prog 11 #[a.val, p.val, v.val] wd fun e w' => e = .returned (.bool (matchB a p v)) ∧ Kept (fun _ => False) wd w' := by
  obtain ⟨im, id, alt, line, col, rows, cols, x, y, w, h, dx, dy, z⟩ := p
  obtain ⟨what, aim, apl, ax, ay, az⟩ := a
  obtain ⟨valt, vtop, vrows, vcols, vrow, vcol⟩ := v
  unfold matchB lowU
  simp only
  by_cases h0 : 65 ≤ what
  · rw [if_pos h0]
    by_cases h1 : what ≤ 90
    · rw [if_pos h1]; exact match_up _ _ _ _ _ _ _ _ _ _ _ _ _ _ _ _ _ _ _ _ _ _ _ _ _ _ _ wd (decide_eq_true h0) (decide_eq_true h1) rfl
    · rw [if_neg h1]; exact match_hi _ _ _ _ _ _ _ _ _ _ _ _ _ _ _ _ _ _ _ _ _ _ _ _ _ _ wd (decide_eq_true h0) (decide_eq_false h1)
  · rw [if_neg h0]; exact match_lo _ _ _ _ _ _ _ _ _ _ _ _ _ _ _ _ _ _ _ _ _ _ _ _ _ _ wd (decide_eq_false h0)
end Go.Proofs.Ytgbflcmageipdaa
