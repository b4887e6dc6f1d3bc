/- The law of single calls, walked. -/
import Derived.Test.YtgejefhnoloebaaLParts
import Derived.Test.YtgejefhnoloebaaFitAll
import Derived.Test.YtgejefhnoloebaaSet
import Derived.Test.YtgejefhnoloebaaRSet
namespace Go.Proofs.Ytgejefhnoloebaa
open Go.RowKit Go.Sort
set_option linter.unusedVariables false
set_option linter.unusedSimpArgs false
attribute [local go_sem] growOp growUpon sameUpon
theorem spl_bytes {p ys : List Int} {o : Nat} (h : IsBytes p) (hy : IsBytes ys) (hl : o + ys.length ≤ p.length) : IsBytes (spl p o ys) := by
  intro n hn
  obtain ⟨j, hj, rfl⟩ := List.mem_iff_getElem.1 hn
  have e := spl_get (xs := p) (o := o) (ys := ys) hl j
  rw [List.getD_eq_getElem?_getD, List.getElem?_eq_getElem hj, Option.getD_some] at e
  rw [e]
  split
  · exact getD_byte hy _
  · exact getD_byte h _
/-- Both sides tell the same pixel. -/
theorem at_all (W H : Nat) (x y : Int) (p : List Int) (n : Nat) (hr : rightM ⟨W, H, p⟩ = true) (hn : p.length = n) :
    ∃ (d0 d1 d2 d3 : Int) (b : Bool), (∀ (a : Option Addr) (cap : Nat) (wd : World), SlAt .u8 wd a n p → n ≤ cap → cap ≤ 9223372036854775807 → Calls Try.prog 35 #[.agg #[.int .i64 W, .int .i64 H, .slice a n cap], .int .i64 x, .int .i64 y] wd fun e w' => e = .returned (.tuple #[.agg #[.int .u8 d0, .int .u8 d1, .int .u8 d2, .int .u8 d3], .bool b]) ∧ Kept (fun _ => False) wd w') ∧
      (∀ (a : Option Addr) (cap : Nat) (wd : World), SlAt .u8 wd a n p → Calls Try.prog 36 #[.agg #[.int .i64 W, .int .i64 H, .slice a n cap], .int .i64 x, .int .i64 y] wd fun e w' => e = .returned (.tuple #[.agg #[.int .u8 d0, .int .u8 d1, .int .u8 d2, .int .u8 d3], .bool b]) ∧ Kept (fun _ => False) wd w') := by
  have hr2 := hr
  unfold rightM at hr2
  rw [Bool.and_eq_true] at hr2
  have hsz : sizeB W H = true := hr2.1
  have h4 : (p.length : Int) = 4 * (W : Int) * (H : Int) := of_decide_eq_true hr2.2
  have hnI : (n : Int) = 4 * (W : Int) * (H : Int) := by rw [← hn]; exact h4
  obtain ⟨z1, z2, z3, z4, z5, z6, -⟩ := sizeB_t hsz
  have hwh : (W : Int) * (H : Int) = ((W * H : Nat) : Int) := by simp
  rw [Int.mul_assoc, hwh] at h4
  rw [hwh] at z6
  cases hin : inB W H x y with
  | false => exact ⟨0, 0, 0, 0, false, fun a cap wd _ _ _ => atc_no W H x y a n cap wd hnI hsz hin, fun a cap wd _ => rat_no W H x y a n cap wd hin⟩
  | true =>
    obtain ⟨h1, h2, h3, h5⟩ := of_decide_eq_true hin
    obtain ⟨X, rfl⟩ : ∃ W : Nat, x = W := ⟨x.toNat, by omega⟩
    obtain ⟨Y, rfl⟩ : ∃ W : Nat, y = W := ⟨y.toNat, by omega⟩
    refine ⟨_, _, _, _, true, fun a cap wd hs hc hcm => atc_yes W H X Y p a n cap wd hr (by omega) (by omega) hs hc hcm, fun a cap wd hs => rat_yes W H X Y p a n cap wd (by omega) (by omega) (by omega) (by omega) hs (by omega) (by omega)⟩
/-- Both sides set the same pixel. -/
theorem set_all (W H : Nat) (x y : Int) (p : List Int) (n : Nat) (c0 c1 c2 c3 : Int) (hcb : IsBytes [c0, c1, c2, c3]) (hr : rightM ⟨W, H, p⟩ = true) (hb : IsBytes p) (hn : p.length = n) (hn2 : n ≤ 16384) :
    ∃ (L : List Int) (b : Bool), IsBytes L ∧ L.length = n ∧ (∀ (a : Option Addr) (cap : Nat) (wd : World), SlAt .u8 wd a n p → (a = none → n = 0 ∧ cap = 0) → Calls Try.prog 37 #[.agg #[.int .i64 W, .int .i64 H, .slice a n cap], .int .i64 x, .int .i64 y, .agg #[.int .u8 c0, .int .u8 c1, .int .u8 c2, .int .u8 c3]] wd fun e w' => ∃ v, e = .returned (.tuple #[.agg #[.int .i64 W, .int .i64 H, v], .bool b]) ∧ Made wd L v w') ∧
      (∀ (a : Option Addr) (cap : Nat) (wd : World), SlAt .u8 wd a n p → (a = none → n = 0 ∧ cap = 0) → Calls Try.prog 38 #[.agg #[.int .i64 W, .int .i64 H, .slice a n cap], .int .i64 x, .int .i64 y, .agg #[.int .u8 c0, .int .u8 c1, .int .u8 c2, .int .u8 c3]] wd fun e w' => ∃ v, e = .returned (.tuple #[.agg #[.int .i64 W, .int .i64 H, v], .bool b]) ∧ Made wd L v w') := by
  have hr2 := hr
  unfold rightM at hr2
  rw [Bool.and_eq_true] at hr2
  have hsz : sizeB W H = true := hr2.1
  have h4 : (p.length : Int) = 4 * (W : Int) * (H : Int) := of_decide_eq_true hr2.2
  have hnI : (n : Int) = 4 * (W : Int) * (H : Int) := by rw [← hn]; exact h4
  obtain ⟨z1, z2, z3, z4, z5, z6, -⟩ := sizeB_t hsz
  have hwh : (W : Int) * (H : Int) = ((W * H : Nat) : Int) := by simp
  rw [Int.mul_assoc, hwh] at h4
  rw [hwh] at z6
  cases hin : inB W H x y with
  | false => exact ⟨p, false, hb, hn, fun a cap wd hs hnil => set_no W H x y p a n cap c0 c1 c2 c3 wd hnI hsz hin hs hn2 hnil, fun a cap wd hs hnil => rset_no W H x y p a n cap c0 c1 c2 c3 wd hin hs hn2 hnil⟩
  | true =>
    obtain ⟨h1, h2, h3, h5⟩ := of_decide_eq_true hin
    obtain ⟨X, rfl⟩ : ∃ W : Nat, x = W := ⟨x.toNat, by omega⟩
    obtain ⟨Y, rfl⟩ : ∃ W : Nat, y = W := ⟨y.toNat, by omega⟩
    have hP := fit_idx (W := W) (H := H) (x := X) (y := Y) (by omega) (by omega)
    have hl : 4 * (Y * W + X) + [c0, c1, c2, c3].length ≤ p.length := by simp only [List.length_cons, List.length_nil]; omega
    exact ⟨_, true, spl_bytes hb hcb hl, by rw [spl_length hl, hn], fun a cap wd hs hnil => set_yes W H X Y p a n cap c0 c1 c2 c3 wd hnI hsz (by omega) (by omega) hs hn2 hnil,
      fun a cap wd hs hnil => rset_yes W H X Y p a n cap c0 c1 c2 c3 wd (by omega) (by omega) (by omega) (by omega) (by omega) (by omega) hs hn2 hnil⟩
theorem slAt_ne {w : World} {a : Option Addr} {n : Nat} {xs : List Int} {q T : Nat} {f : Nat × Nat} (h : SlAt .u8 w a n xs) (hq : w.heap[q]? = some (.cells #[.int .i64 0, .int .i64 0, .slice none 0 0] T f)) : ∀ b off, 0 < n → a = some ⟨b, off, none⟩ → b ≠ q := by
  rintro b off h0 rfl rfl
  obtain ⟨b', off', he, hc⟩ := h.2.resolve_left (by omega)
  cases he
  have h1 := hc 0 h0
  rw [blk_cell hq, Nat.add_zero] at h1
  match off, h1 with
  | 0, h1 => cases h1
  | 1, h1 => cases h1
  | 2, h1 => cases h1
  | k + 3, h1 => simp at h1
theorem fill_bytes {W H : Nat} {x y cw ch : Int} {p : List Int} {c0 c1 c2 c3 : Int} {n : Nat} (hb : IsBytes p) (hcb : IsBytes [c0, c1, c2, c3]) : IsBytes (fillL W H x y cw ch p c0 c1 c2 c3 n) := by
  intro v hv
  simp only [fillL, tab, List.mem_map, List.mem_range] at hv
  obtain ⟨q, -, rfl⟩ := hv
  unfold paintF
  split
  · exact getD_byte hcb _
  · exact getD_byte hb _

set_option maxRecDepth 100000 in
set_option maxHeartbeats 8000000 in
theorem calls_near (W H : Nat) (p : List Int) (x y cw ch : Int) (a : Option Addr) (n cap : Nat) (c0 c1 c2 c3 : Int) (w : World) (hxx : I64 x) (hyy : I64 y) (hcw : I64 cw) (hch : I64 ch) (hn2 : n ≤ 16384) (hr : rightM ⟨W, H, p⟩ = true)
    (hs : SlAt .u8 w a n p) (hpb : IsBytes p) (hc : n ≤ cap) (hcm : cap ≤ 9223372036854775807) (hnil : a = none → n = 0 ∧ cap = 0) (hcb : IsBytes [c0, c1, c2, c3]) :
    Calls Try.prog 9 #[.agg #[.int .i64 W, .int .i64 H, .slice a n cap], .int .i64 x, .int .i64 y, .int .i64 cw, .int .i64 ch, .agg #[.int .u8 c0, .int .u8 c1, .int .u8 c2, .int .u8 c3]] w fun e w' => e = .returned (.bool true) ∧ Kept (fun _ => False) w w' := by
  have hr2 := hr
  unfold rightM at hr2
  rw [Bool.and_eq_true] at hr2
  have hsz : sizeB W H = true := hr2.1
  obtain ⟨z1, z2, z3, z4, -⟩ := sizeB_t hsz
  have hl := hs.1
  have hW : I64 (W : Int) := by unfold I64; omega
  have hH : I64 (H : Int) := by unfold I64; omega
  obtain ⟨d0, d1, d2, d3, ab, hat, hrat⟩ := at_all W H x y p n hr hl
  obtain ⟨sl, sb, hslb, hsll, hset, hrset⟩ := set_all W H x y p n c0 c1 c2 c3 hcb hr hpb hl hn2
  obtain ⟨q1, q2, q3, q4⟩ := cutM_right (x := x) (y := y) (cw := cw) (ch := ch) (p := p) hsz
  have q5 := cutM_bytes (W := W) (H := H) (x := x) (y := y) (cw := cw) (ch := ch) hpb
  have q6 := fill_bytes (W := W) (H := H) (x := x) (y := y) (cw := cw) (ch := ch) (n := n) hpb hcb
  obtain ⟨C, hCe⟩ : ∃ C, (cutM W H x y cw ch p).1 = C := ⟨_, rfl⟩
  obtain ⟨D, hDe⟩ : ∃ C, (cutM W H x y cw ch p).2.1 = C := ⟨_, rfl⟩
  obtain ⟨cp, hcpe⟩ : ∃ C, (cutM W H x y cw ch p).2.2 = C := ⟨_, rfl⟩
  obtain ⟨fl, hfle⟩ : ∃ C, fillL W H x y cw ch p c0 c1 c2 c3 n = C := ⟨_, rfl⟩
  have hfll : fl.length = n := by rw [← hfle]; exact tab_length _ _
  rw [hcpe] at q5
  rw [hfle] at q6
  obtain ⟨L, hL⟩ : ∃ L, cp.length = L := ⟨_, rfl⟩
  have CF := Lib.hid (fun w => show Calls Try.prog 18 #[.agg #[.int .i64 W, .int .i64 H, .slice a n cap]] w fun e w' => e = .returned (.bool true) ∧ Kept (fun _ => False) w w' from by have h := few_any W H a n cap w (by omega); rw [decide_eq_true (by omega)] at h; exact h)
  have CO := Lib.hid (fun w => show Calls Try.prog 27 #[.agg #[.int .i64 W, .int .i64 H, .slice a n cap]] w fun e w' => e = .returned (.agg #[.int .i64 W, .int .i64 H, .slice a n cap]) ∧ Kept (fun _ => False) w w' from of_any _ _ _ _ _ _)
  have CR := Lib.hid (fun w => show Calls Try.prog 26 #[.agg #[.int .i64 W, .int .i64 H, .slice a n cap]] w fun e w' => e = .returned (.bool true) ∧ Kept (fun _ => False) w w' from by rw [← hr]; exact rright_any ⟨W, H, p⟩ a n cap w hW hH hl (by omega))
  have HAT := Lib.hid hat
  have HRAT := Lib.hid hrat
  have HSET := Lib.hid hset
  have HRSET := Lib.hid hrset
  have HCUT := Lib.hid (fun (w : World) (hs : SlAt .u8 w a n p) => show Calls Try.prog 33 #[.agg #[.int .i64 W, .int .i64 H, .slice a n cap], .int .i64 x, .int .i64 y, .int .i64 cw, .int .i64 ch] w fun e w' => ∃ v, e = .returned (.agg #[.int .i64 C, .int .i64 D, v]) ∧ Made w cp v w' from by
    have h := cut_any W H x y cw ch p a n cap w hxx hyy hcw hch hr hs hn2 hc hcm
    rw [hCe, hDe, hcpe] at h; exact h)
  have HRCUT := Lib.hid (fun (w : World) (hs : SlAt .u8 w a n p) => show Calls Try.prog 39 #[.agg #[.int .i64 W, .int .i64 H, .slice a n cap], .int .i64 x, .int .i64 y, .int .i64 cw, .int .i64 ch] w fun e w' => ∃ v, e = .returned (.agg #[.int .i64 C, .int .i64 D, v]) ∧ Made w cp v w' from by
    have h := rcut_any W H x y cw ch p a n cap w hxx hyy hcw hch hr hs hn2 hc hcm
    rw [hCe, hDe, hcpe] at h; exact h)
  have HFILL := Lib.hid (fun (w : World) (hs : SlAt .u8 w a n p) => show Calls Try.prog 34 #[.agg #[.int .i64 W, .int .i64 H, .slice a n cap], .int .i64 x, .int .i64 y, .int .i64 cw, .int .i64 ch, .agg #[.int .u8 c0, .int .u8 c1, .int .u8 c2, .int .u8 c3]] w fun e w' => ∃ v, e = .returned (.agg #[.int .i64 W, .int .i64 H, v]) ∧ Made w fl v w' from by
    rw [← hfle]; exact fill_any W H x y cw ch p a n cap c0 c1 c2 c3 w hxx hyy hcw hch hr hs hn2 hnil)
  have HRFILL := Lib.hid (fun (w : World) (hs : SlAt .u8 w a n p) => show Calls Try.prog 40 #[.agg #[.int .i64 W, .int .i64 H, .slice a n cap], .int .i64 x, .int .i64 y, .int .i64 cw, .int .i64 ch, .agg #[.int .u8 c0, .int .u8 c1, .int .u8 c2, .int .u8 c3]] w fun e w' => ∃ v, e = .returned (.agg #[.int .i64 W, .int .i64 H, v]) ∧ Made w fl v w' from by
    rw [← hfle]; exact rfill_any W H x y cw ch p a n cap c0 c1 c2 c3 w hxx hyy hcw hch hr hs hn2 hnil)
  have HAL := Lib.hid (fun (X Y : Int) (l : List Int) (k : Nat) (hb : IsBytes l) (w : World) (a1 a2 : Option Addr) (k1 k2 : Nat) (h1 : SlAt .u8 w a1 k l) (h2 : SlAt .u8 w a2 k l) => show Calls Try.prog 24 #[.agg #[.int .i64 X, .int .i64 Y, .slice a1 k k1], .agg #[.int .i64 X, .int .i64 Y, .slice a2 k k2]] w fun e w' => e = .returned (.bool true) ∧ Kept (fun _ => False) w w' from by
    have h := alike_any ⟨X, Y, l⟩ ⟨X, Y, l⟩ a1 a2 k k k1 k2 w h1 h2 hb hb
    rw [sameM_self] at h; exact h)
  have HS := Lib.hid hs
  have HSLL := Lib.hid hsll
  have HCL := Lib.hid hL
  have HFL := Lib.hid hfll
  have HQS := Lib.hid hslb
  have HQC := Lib.hid q5
  have HQF := Lib.hid q6
  have HNIL := Lib.hid hnil
  have HRI := Lib.hid hr
  have HPB := Lib.hid hpb
  have HPL := Lib.hid hl
  clear hr hr2 hsz hs hpb q1 q2 q3 q4 q5 q6 hCe hDe hcpe hfle hfll hl hat hrat hset hrset hslb hsll hL hnil
  go_enter Try.func9, Try.ntmps9
  go_wp2_with fail
  refine (known_any _).mono ?_; rintro e w1 ⟨rfl, hk⟩
  have kk := (((Kept.refl (fun _ => False) w).alloc (.cells #[.int .i64 W, .int .i64 H, .slice a n cap] 35)).alloc (.cells #[.int .u8 c0, .int .u8 c1, .int .u8 c2, .int .u8 c3] 23)).then hk
  have HM1 := Lib.hid (hk.blk (blk_alloc (blk_new w (.cells #[.int .i64 W, .int .i64 H, .slice a n cap] 35)) (.cells #[.int .u8 c0, .int .u8 c1, .int .u8 c2, .int .u8 c3] 23)) id)
  have HC1 := Lib.hid (hk.blk (blk_at (w.alloc (.cells #[.int .i64 W, .int .i64 H, .slice a n cap] 35)) (.cells #[.int .u8 c0, .int .u8 c1, .int .u8 c2, .int .u8 c3] 23) (b := w.heap.size + 1) (by simp)) id)
  have HK1 := Lib.hid kk
  obtain ⟨⟨a0, -⟩, ⟨a1, -⟩, a2, -⟩ := blk3 HM1.out
  clear hk kk
  go_wp2_with fail
  refine (CF.out _).mono ?_; rintro e w2 ⟨rfl, hk⟩
  have HM2 := Lib.hid (hk.blk HM1.out id)
  have HC2 := Lib.hid (hk.blk HC1.out id)
  have HK2 := Lib.hid (HK1.out.then hk)
  clear hk a0 a1 a2
  obtain ⟨⟨a0, -⟩, ⟨a1, -⟩, a2, -⟩ := blk3 HM2.out
  go_wp2_with fail
  refine (CO.out _).mono ?_; rintro e w3 ⟨rfl, hk⟩
  have HM3 := Lib.hid (hk.blk HM2.out id)
  have HC3 := Lib.hid (hk.blk HC2.out id)
  have HK3 := Lib.hid (HK2.out.then hk)
  clear hk a0 a1 a2
  obtain ⟨⟨a0, -⟩, ⟨a1, -⟩, a2, -⟩ := blk3 HM3.out
  go_wp2_with fail
  refine (CR.out _).mono ?_; rintro e w4 ⟨rfl, hk⟩
  have HM4 := Lib.hid (hk.blk HM3.out id)
  have HC4 := Lib.hid (hk.blk HC3.out id)
  have HK4 := Lib.hid (HK3.out.then hk)
  clear hk a0 a1 a2
  obtain ⟨⟨a0, -⟩, ⟨a1, -⟩, a2, -⟩ := blk3 HM4.out
  go_wp2_with fail
  refine (HAT.out _ _ _ (HS.out.up HK4.out) hc hcm).mono ?_; rintro e w5 ⟨rfl, hk⟩
  have HM5 := Lib.hid (hk.blk HM4.out id)
  have HC5 := Lib.hid (hk.blk HC4.out id)
  have HK5 := Lib.hid (HK4.out.then hk)
  clear hk a0 a1 a2
  obtain ⟨PA, hPA⟩ : ∃ P, w5.heap.size = P := ⟨_, rfl⟩
  obtain ⟨w6, hw6⟩ : ∃ V, w5.alloc (.cells #[.int .u8 d0, .int .u8 d1, .int .u8 d2, .int .u8 d3] 23) = V := ⟨_, rfl⟩
  have hk : Kept (fun _ => False) w5 w6 := by rw [← hw6]; exact (Kept.refl _ _).alloc _
  have A6 := Lib.hid (show w6.heap[PA]? = some (.cells #[.int .u8 d0, .int .u8 d1, .int .u8 d2, .int .u8 d3] 23 (0, 0)) by rw [← hw6]; exact blk_at _ _ hPA.symm)
  have HM6 := Lib.hid (hk.blk HM5.out id)
  have HC6 := Lib.hid (hk.blk HC5.out id)
  have HK6 := Lib.hid (HK5.out.then hk)
  clear hk 
  obtain ⟨⟨a0, -⟩, ⟨a1, -⟩, a2, -⟩ := blk3 HM6.out
  go_wp2_with fail
  refine (CO.out _).mono ?_; rintro e w7 ⟨rfl, hk⟩
  have HM7 := Lib.hid (hk.blk HM6.out id)
  have HC7 := Lib.hid (hk.blk HC6.out id)
  have A7 := Lib.hid (hk.blk A6.out id)
  have HK7 := Lib.hid (HK6.out.then hk)
  clear hk a0 a1 a2 hw6
  go_wp2_with fail
  refine (HRAT.out _ _ _ (HS.out.up HK7.out)).mono ?_; rintro e w8 ⟨rfl, hk⟩
  have HM8 := Lib.hid (hk.blk HM7.out id)
  have HC8 := Lib.hid (hk.blk HC7.out id)
  have A8 := Lib.hid (hk.blk A7.out id)
  have HK8 := Lib.hid (HK7.out.then hk)
  clear hk 
  obtain ⟨PB, hPB⟩ : ∃ P, w8.heap.size = P := ⟨_, rfl⟩
  obtain ⟨w9, hw9⟩ : ∃ V, w8.alloc (.cells #[.int .u8 d0, .int .u8 d1, .int .u8 d2, .int .u8 d3] 22) = V := ⟨_, rfl⟩
  have hk : Kept (fun _ => False) w8 w9 := by rw [← hw9]; exact (Kept.refl _ _).alloc _
  have B9 := Lib.hid (show w9.heap[PB]? = some (.cells #[.int .u8 d0, .int .u8 d1, .int .u8 d2, .int .u8 d3] 22 (0, 0)) by rw [← hw9]; exact blk_at _ _ hPB.symm)
  have HM9 := Lib.hid (hk.blk HM8.out id)
  have HC9 := Lib.hid (hk.blk HC8.out id)
  have A9 := Lib.hid (hk.blk A8.out id)
  have HK9 := Lib.hid (HK8.out.then hk)
  clear hk 
  obtain ⟨⟨a0, -⟩, ⟨a1, -⟩, a2, -⟩ := blk3 HM9.out
  obtain ⟨⟨k0, -⟩, ⟨k1, -⟩, ⟨k2, -⟩, k3, -⟩ := blk4 HC9.out
  go_wp2_with fail
  refine (HSET.out _ _ _ (HS.out.up HK9.out) HNIL.out).mono ?_; rintro e w10 ⟨v, rfl, ho10, hk, hf10⟩
  obtain ⟨sv, sc, rfl, -⟩ := ho10.shape
  rw [HSLL.out] at ho10 hf10 ⊢
  have O10 := Lib.hid ho10
  have HM10 := Lib.hid (hk.blk HM9.out id)
  have HC10 := Lib.hid (hk.blk HC9.out id)
  have A10 := Lib.hid (hk.blk A9.out id)
  have B10 := Lib.hid (hk.blk B9.out id)
  have HK10 := Lib.hid (HK9.out.then hk)
  clear hk a0 a1 a2 k0 k1 k2 k3 ho10 hf10 hw9
  obtain ⟨PT, hPT⟩ : ∃ P, w10.heap.size = P := ⟨_, rfl⟩
  obtain ⟨w11, hw11⟩ : ∃ V, w10.alloc (.cells #[.int .i64 W, .int .i64 H, .slice sv n sc] 35) = V := ⟨_, rfl⟩
  have hk : Kept (fun _ => False) w10 w11 := by rw [← hw11]; exact (Kept.refl _ _).alloc _
  have T11 := Lib.hid (show w11.heap[PT]? = some (.cells #[.int .i64 W, .int .i64 H, .slice sv n sc] 35 (0, 0)) by rw [← hw11]; exact blk_at _ _ hPT.symm)
  have O11 := Lib.hid (O10.out.kept hk (fun _ _ => id))
  have HM11 := Lib.hid (hk.blk HM10.out id)
  have HC11 := Lib.hid (hk.blk HC10.out id)
  have A11 := Lib.hid (hk.blk A10.out id)
  have B11 := Lib.hid (hk.blk B10.out id)
  have HK11 := Lib.hid (HK10.out.then hk)
  clear hk 
  obtain ⟨WR, hWR⟩ : ∃ WR, WR = w11.drew := ⟨_, rfl⟩
  have kR : Kept (fun _ => False) w11 WR := by rw [hWR]; exact (Kept.refl _ _).drew
  have HKR := Lib.hid (HK11.out.then kR)
  obtain ⟨⟨a0, -⟩, ⟨a1, -⟩, a2, -⟩ := blk3 (kR.blk HM11.out id)
  obtain ⟨⟨k0, -⟩, ⟨k1, -⟩, ⟨k2, -⟩, k3, -⟩ := blk4 (kR.blk HC11.out id)
  have X0 := cell_regrown a0
  have X1 := cell_regrown a1
  have X2 := cell_regrown a2
  have X3 := cell_regrown k0
  have X4 := cell_regrown k1
  have X5 := cell_regrown k2
  have X6 := cell_regrown k3
  have HWR := Lib.hid hWR
  have KR := Lib.hid kR
  clear a0 a1 a2 k0 k1 k2 k3 hWR kR
  obtain ⟨RM, hRM⟩ : ∃ R : Value → World → Prop, R = fun v _ => v = .agg #[.int .i64 W, .int .i64 H, .slice a n cap] := ⟨_, rfl⟩
  obtain ⟨RS, hRS⟩ : ∃ R : Value → World → Prop, R = fun u w' => ∃ av cv, u = .tuple #[.agg #[.int .i64 W, .int .i64 H, .slice av n cv], .bool sb] ∧ SlAt .u8 w' av n sl := ⟨_, rfl⟩
  obtain ⟨RA, hRA⟩ : ∃ R : Value → World → Prop, R = fun v w' => ∃ q, v = .pointer (some ⟨q, 0, none⟩) ∧ WR.heap.size ≤ q ∧ w'.heap[q]? = some (.cells #[.int .i64 0, .int .i64 0, .slice none 0 0] 41 (0, 0)) := ⟨_, rfl⟩
  have HRM := Lib.hid hRM
  have HRS := Lib.hid hRS
  have HRA := Lib.hid hRA
  clear hRM hRS hRA
  go_wp2
  clear hw11
  refine wp_region_grow #[0, 1, 0, 0, 0, 31, 63, 127, 127, 0, 767, 2047] 10 [8] (fun i => if i = 1 then some RM else if i = 5 then some RS else if i = 9 then some RA else none) (by kernel_rfl) rfl (by kernel_rfl) (fun i hi => by simp at hi; subst hi; rfl) (fun _ _ _ _ _ h => h) ?_
  rintro _ rfl
  rw [← HWR.out]
  simp only [List.take_succ_cons, List.take_zero, List.drop_succ_cons, List.drop_zero, number, Nat.reduceAdd]
  repeat (refine wpGrow_step (fun K hK => ?_); go_simp; refine hK _ _ ?_; clear hK K)
  refine wpGrow_step (fun K hK => ?_)
  go_simp
  refine ⟨fun w' hg => (CO.out _).mono (fun e w'' ⟨he, hk⟩ => ⟨_, he, hk, by rw [HRM.out]⟩), fun v w' hv _ => ?_⟩
  rw [HRM.out] at hv
  subst hv
  refine hK _ _ ?_; clear hK K
  repeat (refine wpGrow_step (fun K hK => ?_); go_simp; refine hK _ _ ?_; clear hK K)
  refine wpGrow_step (fun K hK => ?_)
  go_simp
  refine ⟨fun w' hg => (HRSET.out _ _ _ (HS.out.up (HKR.out.then hg.old)) HNIL.out).mono (fun e w'' ⟨v, he, ho, hk, hf⟩ => by
    obtain ⟨av, cv, rfl, hsl, -⟩ := ho.shape
    rw [HSLL.out] at hsl he
    exact ⟨_, he, hk, by rw [HRS.out]; exact ⟨_, _, rfl, hsl⟩⟩), fun v ws hv _ => ?_⟩
  rw [HRS.out] at hv
  obtain ⟨rv, rc, rfl, hrv⟩ := hv
  refine hK _ _ ?_; clear hK K
  repeat (refine wpGrow_step (fun K hK => ?_); go_simp; refine hK _ _ ?_; clear hK K)
  refine wpGrow_step (fun K hK => ?_)
  go_simp
  refine ⟨fun w' hg => ⟨(Kept.refl _ _).alloc _, by rw [HRA.out]; exact ⟨_, rfl, hg.old.size, blk_new _ _⟩⟩, fun v wa hv _ => ?_⟩
  rw [HRA.out] at hv
  obtain ⟨PR, rfl, hq, hqb⟩ := hv
  refine hK _ _ ?_; clear hK K
  refine wpGrow_nil ?_
  intro w12 hk3 hω
  have hqb3 : w12.heap[PR]? = _ := Kept.blk (show Kept _ wa w12 from hω 9) hqb id
  have hrv3 := hrv.up (show Kept _ ws w12 from hω 5)
  obtain ⟨V1, V2, w13, f1, f2, f3, ⟨g0, g0'⟩, ⟨g1, g1'⟩, ⟨g2, g2'⟩, bV, kV3⟩ := store3 hqb3 (.int .i64 W) (.int .i64 H) (.slice rv n rc)
  have hPRlt := lt_of_blk hqb
  have hltHM := lt_of_blk (KR.out.blk HM11.out id)
  have HM13 := Lib.hid (kV3.blk ((KR.out.then hk3).blk HM11.out id) (fun (h : w.heap.size = PR) => by omega))
  have hltHC := lt_of_blk (KR.out.blk HC11.out id)
  have HC13 := Lib.hid (kV3.blk ((KR.out.then hk3).blk HC11.out id) (fun (h : w.heap.size + 1 = PR) => by omega))
  have hltA := lt_of_blk (KR.out.blk A11.out id)
  have A13 := Lib.hid (kV3.blk ((KR.out.then hk3).blk A11.out id) (fun (h : PA = PR) => by omega))
  have hltB := lt_of_blk (KR.out.blk B11.out id)
  have B13 := Lib.hid (kV3.blk ((KR.out.then hk3).blk B11.out id) (fun (h : PB = PR) => by omega))
  have hltT := lt_of_blk (KR.out.blk T11.out id)
  have T13 := Lib.hid (kV3.blk ((KR.out.then hk3).blk T11.out id) (fun (h : PT = PR) => by omega))
  have HKW := Lib.hid ((HKR.out.then hk3).trans (kV3.mono fun i _ hi => Or.inr (by have h9 : i = PR := hi; have := HKR.out.size; omega)))
  have S13 := Lib.hid ((O11.out.sl.1.up (KR.out.then hk3)).kept kV3 (fun b off h0 he (hS : b = PR) => by have h8 := ub_of (O11.out.sl.1.up KR.out) b off h0 he; omega))
  have R13 := Lib.hid (hrv3.kept kV3 (fun b off h0 he hS => slAt_ne hrv3 hqb3 b off h0 he hS))
  have Rb13 := Lib.hid bV
  clear hk3 hω hqb hqb3 hrv hrv3 bV kV3 X0 X1 X2 X3 X4 X5 X6 HWR KR hq hPRlt hltHM hltHC hltA hltB hltT
  obtain ⟨WQ, hWQ⟩ : ∃ WR, WR = w13.drew := ⟨_, rfl⟩
  have kQ : Kept (fun _ => False) w13 WQ := by rw [hWQ]; exact (Kept.refl _ _).drew
  have HKQ := Lib.hid (HKW.out.then kQ)
  have HSQ := Lib.hid (S13.out.up kQ)
  have HRQ := Lib.hid (R13.out.up kQ)
  obtain ⟨⟨a0, -⟩, ⟨a1, -⟩, a2, -⟩ := blk3 (kQ.blk HM13.out id)
  obtain ⟨⟨k0, -⟩, ⟨k1, -⟩, ⟨k2, -⟩, k3, -⟩ := blk4 (kQ.blk HC13.out id)
  obtain ⟨⟨m0, -⟩, ⟨m1, -⟩, ⟨m2, -⟩, m3, -⟩ := blk4 (kQ.blk A13.out id)
  obtain ⟨⟨n0, -⟩, ⟨n1, -⟩, ⟨n2, -⟩, n3, -⟩ := blk4 (kQ.blk B13.out id)
  obtain ⟨⟨t0, -⟩, ⟨t1, -⟩, t2, -⟩ := blk3 (kQ.blk T13.out id)
  obtain ⟨⟨r0, -⟩, ⟨r1, -⟩, r2, -⟩ := blk3 (kQ.blk Rb13.out id)
  have Xa0 := cell_regrown a0
  have Xa1 := cell_regrown a1
  have Xa2 := cell_regrown a2
  have Xk0 := cell_regrown k0
  have Xk1 := cell_regrown k1
  have Xk2 := cell_regrown k2
  have Xk3 := cell_regrown k3
  have Xm0 := cell_regrown m0
  have Xm1 := cell_regrown m1
  have Xm2 := cell_regrown m2
  have Xm3 := cell_regrown m3
  have Xn0 := cell_regrown n0
  have Xn1 := cell_regrown n1
  have Xn2 := cell_regrown n2
  have Xn3 := cell_regrown n3
  have Xt0 := cell_regrown t0
  have Xt1 := cell_regrown t1
  have Xt2 := cell_regrown t2
  have Xr0 := cell_regrown r0
  have Xr1 := cell_regrown r1
  have Xr2 := cell_regrown r2
  have HWQ := Lib.hid hWQ
  have HM14 := Lib.hid (kQ.blk HM13.out id)
  clear a0 a1 a2 k0 k1 k2 k3 m0 m1 m2 m3 n0 n1 n2 n3 t0 t1 t2 r0 r1 r2 hWQ kQ
  obtain ⟨RT, hRT⟩ : ∃ R : Value → World → Prop, R = fun v _ => v = .bool true := ⟨_, rfl⟩
  obtain ⟨RC, hRC⟩ : ∃ R : Value → World → Prop, R = fun u w' => ∃ av cv, u = .agg #[.int .i64 C, .int .i64 D, .slice av L cv] ∧ SlAt .u8 w' av L cp := ⟨_, rfl⟩
  obtain ⟨RF, hRF⟩ : ∃ R : Value → World → Prop, R = fun u w' => ∃ av cv, u = .agg #[.int .i64 W, .int .i64 H, .slice av n cv] ∧ SlAt .u8 w' av n fl := ⟨_, rfl⟩
  have HRT := Lib.hid hRT
  have HRC := Lib.hid hRC
  have HRF := Lib.hid hRF
  clear hRT hRC hRF
  have hne := run_neCol 22 Try.underlying22
  go_wp2
  refine wp_region_grow #[0, 0, 3, 7, 15, 15, 63, 127, 255, 511, 511, 2047, 4095, 8191, 16383, 32767, 32767, 131071, 262143, 524287, 1048575, 1048575, 1048575, 1048575, 1048575, 33554431, 1048575, 134217727, 1048575, 1048575, 1048575, 1048575, 4294967295, 8589934591, 17179869183, 34359738367, 68719476735, 137438953471, 137438953471, 137438953471, 137438953471, 137438953471, 137438953471, 8796093022207, 137438953471, 35184372088831, 137438953471, 137438953471, 137438953471, 137438953471, 137438953471, 2251799813685247, 4503599627370495, 9007199254740991, 18014398509481983] 55 [] (fun i => if i = 11 ∨ i = 33 ∨ i = 52 then some RT else if i = 25 ∨ i = 32 then some RC else if i = 27 ∨ i = 45 then some RM else if i = 43 ∨ i = 51 then some RF else none) (by kernel_rfl) rfl (by kernel_rfl) (fun i hi => by cases hi) (fun _ _ _ _ _ h => h) ?_
  rintro _ rfl
  rw [← HWQ.out]
  simp only [List.take_succ_cons, List.take_zero, List.drop_succ_cons, List.drop_zero, number, Nat.reduceAdd]
  repeat (refine wpGrow_step (fun K hK => ?_); go_simp; refine hK _ _ ?_; clear hK K)
  refine wpGrow_step (fun K hK => ?_)
  go_simp
  refine ⟨fun w' hg => (HAL.out W H sl n HQS.out w' sv rv sc rc (HSQ.out.up hg.old) (HRQ.out.up hg.old)).mono (fun e w'' ⟨he, hk⟩ => ⟨_, he, hk, by rw [HRT.out]⟩), fun v u11 hv _ => ?_⟩
  rw [HRT.out] at hv
  subst hv
  refine hK _ _ ?_; clear hK K
  repeat (refine wpGrow_step (fun K hK => ?_); go_simp; refine hK _ _ ?_; clear hK K)
  refine wpGrow_step (fun K hK => ?_)
  go_simp
  refine ⟨fun w' hg => (HCUT.out w' (HS.out.up (HKQ.out.then hg.old))).mono (fun e w'' ⟨v, he, ho, hk, hf⟩ => by
    obtain ⟨av, cv, rfl, hsl, -⟩ := ho.shape
    rw [HCL.out] at hsl he
    exact ⟨_, he, hk, by rw [HRC.out]; exact ⟨_, _, rfl, hsl⟩⟩), fun v u25 hv _ => ?_⟩
  rw [HRC.out] at hv
  obtain ⟨v25, c25', rfl, s25⟩ := hv
  have S25 := Lib.hid s25
  clear s25
  refine hK _ _ ?_; clear hK K
  repeat (refine wpGrow_step (fun K hK => ?_); go_simp; refine hK _ _ ?_; clear hK K)
  refine wpGrow_step (fun K hK => ?_)
  go_simp
  refine ⟨fun w' hg => (CO.out w').mono (fun e w'' ⟨he, hk⟩ => ⟨_, he, hk, by rw [HRM.out]⟩), fun v u27 hv _ => ?_⟩
  rw [HRM.out] at hv
  subst hv
  refine hK _ _ ?_; clear hK K
  repeat (refine wpGrow_step (fun K hK => ?_); go_simp; refine hK _ _ ?_; clear hK K)
  refine wpGrow_step (fun K hK => ?_)
  go_simp
  refine ⟨fun w' hg => (HRCUT.out w' (HS.out.up (HKQ.out.then hg.old))).mono (fun e w'' ⟨v, he, ho, hk, hf⟩ => by
    obtain ⟨av, cv, rfl, hsl, -⟩ := ho.shape
    rw [HCL.out] at hsl he
    exact ⟨_, he, hk, by rw [HRC.out]; exact ⟨_, _, rfl, hsl⟩⟩), fun v u32 hv _ => ?_⟩
  rw [HRC.out] at hv
  obtain ⟨v32, c32', rfl, s32⟩ := hv
  have S32 := Lib.hid s32
  clear s32
  refine hK _ _ ?_; clear hK K
  repeat (refine wpGrow_step (fun K hK => ?_); go_simp; refine hK _ _ ?_; clear hK K)
  refine wpGrow_step (fun K hK => ?_)
  go_simp
  refine ⟨fun w' hg => (HAL.out C D cp L HQC.out w' _ _ _ _ (S25.out.up (show Kept _ u25 w' from hg.seen 25 (by kernel_rfl))) (S32.out.up (show Kept _ u32 w' from hg.seen 32 (by kernel_rfl)))).mono (fun e w'' ⟨he, hk⟩ => ⟨_, he, hk, by rw [HRT.out]⟩), fun v u33 hv _ => ?_⟩
  rw [HRT.out] at hv
  subst hv
  refine hK _ _ ?_; clear hK K
  repeat (refine wpGrow_step (fun K hK => ?_); go_simp; refine hK _ _ ?_; clear hK K)
  refine wpGrow_step (fun K hK => ?_)
  go_simp
  refine ⟨fun w' hg => (HFILL.out w' (HS.out.up (HKQ.out.then hg.old))).mono (fun e w'' ⟨v, he, ho, hk, hf⟩ => by
    obtain ⟨av, cv, rfl, hsl, -⟩ := ho.shape
    rw [HFL.out] at hsl he
    exact ⟨_, he, hk, by rw [HRF.out]; exact ⟨_, _, rfl, hsl⟩⟩), fun v u43 hv _ => ?_⟩
  rw [HRF.out] at hv
  obtain ⟨v43, c43', rfl, s43⟩ := hv
  have S43 := Lib.hid s43
  clear s43
  refine hK _ _ ?_; clear hK K
  repeat (refine wpGrow_step (fun K hK => ?_); go_simp; refine hK _ _ ?_; clear hK K)
  refine wpGrow_step (fun K hK => ?_)
  go_simp
  refine ⟨fun w' hg => (CO.out w').mono (fun e w'' ⟨he, hk⟩ => ⟨_, he, hk, by rw [HRM.out]⟩), fun v u45 hv _ => ?_⟩
  rw [HRM.out] at hv
  subst hv
  refine hK _ _ ?_; clear hK K
  repeat (refine wpGrow_step (fun K hK => ?_); go_simp; refine hK _ _ ?_; clear hK K)
  refine wpGrow_step (fun K hK => ?_)
  go_simp
  refine ⟨fun w' hg => (HRFILL.out w' (HS.out.up (HKQ.out.then hg.old))).mono (fun e w'' ⟨v, he, ho, hk, hf⟩ => by
    obtain ⟨av, cv, rfl, hsl, -⟩ := ho.shape
    rw [HFL.out] at hsl he
    exact ⟨_, he, hk, by rw [HRF.out]; exact ⟨_, _, rfl, hsl⟩⟩), fun v u51 hv _ => ?_⟩
  rw [HRF.out] at hv
  obtain ⟨v51, c51', rfl, s51⟩ := hv
  have S51 := Lib.hid s51
  clear s51
  refine hK _ _ ?_; clear hK K
  repeat (refine wpGrow_step (fun K hK => ?_); go_simp; refine hK _ _ ?_; clear hK K)
  refine wpGrow_step (fun K hK => ?_)
  go_simp
  refine ⟨fun w' hg => (HAL.out W H fl n HQF.out w' _ _ _ _ (S43.out.up (show Kept _ u43 w' from hg.seen 43 (by kernel_rfl))) (S51.out.up (show Kept _ u51 w' from hg.seen 51 (by kernel_rfl)))).mono (fun e w'' ⟨he, hk⟩ => ⟨_, he, hk, by rw [HRT.out]⟩), fun v u52 hv _ => ?_⟩
  rw [HRT.out] at hv
  subst hv
  refine hK _ _ ?_; clear hK K
  repeat (refine wpGrow_step (fun K hK => ?_); go_simp; refine hK _ _ ?_; clear hK K)
  refine wpGrow_nil ?_
  intro w14 hk14 hω
  clear hω
  have HK14 := Lib.hid (HKQ.out.then hk14)
  have HM15 := Lib.hid (hk14.blk HM14.out id)
  clear hk14 Xa0 Xa1 Xa2 Xk0 Xk1 Xk2 Xk3 Xm0 Xm1 Xm2 Xm3 Xn0 Xn1 Xn2 Xn3 Xt0 Xt1 Xt2 Xr0 Xr1 Xr2
  obtain ⟨⟨a0, -⟩, ⟨a1, -⟩, a2, -⟩ := blk3 HM15.out
  have HSM := Lib.hid (fun wd => small_any cw ch wd)
  cases hsm : smallB cw ch with
  | false =>
    rw [hsm] at HSM
    go_wp2_with (go_at_call 17; refine (HSM.out _).mono ?_; rintro e w' ⟨rfl, rfl⟩)
    go_ret
    exact ⟨rfl, HK14.out⟩
  | true =>
    rw [hsm] at HSM
    obtain ⟨fw, fh, ec, ffl, hfb, hft, hrft⟩ := fit_all cw ch W H p hcw hch hsm HRI.out HPB.out n HPL.out
    obtain ⟨FL, hFL⟩ : ∃ L, ffl.length = L := ⟨_, rfl⟩
    have HFLL := Lib.hid hFL
    have HFT := Lib.hid hft
    have HRFT := Lib.hid hrft
    have HFB := Lib.hid hfb
    clear hFL hft hrft hfb hsm
    go_wp2_with (first | (go_at_call 17; refine (HSM.out _).mono ?_; rintro e w' ⟨rfl, rfl⟩))
    refine (HFT.out _ _ _ (HS.out.up HK14.out) hc hcm).mono ?_; rintro e w15 ⟨v, rfl, ho, hk, hf⟩
    obtain ⟨fv, fc, rfl, -⟩ := ho.shape
    rw [HFLL.out] at ho hf ⊢
    obtain ⟨PF, hPF⟩ : ∃ P, w15.heap.size = P := ⟨_, rfl⟩
    obtain ⟨w16, hw16⟩ : ∃ V, w15.alloc (.cells #[.int .i64 fw, .int .i64 fh, .slice fv FL fc] 35) = V := ⟨_, rfl⟩
    have k16 : Kept (fun _ => False) w15 w16 := by rw [← hw16]; exact (Kept.refl _ _).alloc _
    have BF := Lib.hid (show w16.heap[PF]? = some (.cells #[.int .i64 fw, .int .i64 fh, .slice fv FL fc] 35 (0, 0)) by rw [← hw16]; exact blk_at _ _ hPF.symm)
    have OF := Lib.hid (ho.kept k16 (fun _ _ => id))
    have HM16 := Lib.hid ((hk.then k16).blk HM15.out id)
    have HK16 := Lib.hid ((HK14.out.then hk).then k16)
    clear ho hf hk k16 a0 a1 a2
    obtain ⟨⟨a0, -⟩, ⟨a1, -⟩, a2, -⟩ := blk3 HM16.out
    go_wp2_with fail
    refine (CO.out _).mono ?_; rintro e w17 ⟨rfl, hk⟩
    have OF17 := Lib.hid (OF.out.kept hk (fun _ _ => id))
    have BF17 := Lib.hid (hk.blk BF.out id)
    have HK17 := Lib.hid (HK16.out.then hk)
    clear hk a0 a1 a2 hw16
    go_wp2_with fail
    refine (HRFT.out _ _ _ (HS.out.up HK17.out)).mono ?_; rintro e w18 ⟨v, rfl, ho, hk, hf⟩
    obtain ⟨gv, gc, rfl, -⟩ := ho.shape
    rw [HFLL.out] at ho hf ⊢
    obtain ⟨PG, hPG⟩ : ∃ P, w18.heap.size = P := ⟨_, rfl⟩
    obtain ⟨w19, hw19⟩ : ∃ V, w18.alloc (.cells #[.int .i64 fw, .int .i64 fh, .slice gv FL gc] 41) = V := ⟨_, rfl⟩
    have k19 : Kept (fun _ => False) w18 w19 := by rw [← hw19]; exact (Kept.refl _ _).alloc _
    have BG := Lib.hid (show w19.heap[PG]? = some (.cells #[.int .i64 fw, .int .i64 fh, .slice gv FL gc] 41 (0, 0)) by rw [← hw19]; exact blk_at _ _ hPG.symm)
    have OG := Lib.hid (ho.kept k19 (fun _ _ => id))
    have OF19 := Lib.hid (OF17.out.kept (hk.then k19) (fun _ _ => id))
    have BF19 := Lib.hid ((hk.then k19).blk BF17.out id)
    have HK19 := Lib.hid ((HK17.out.then hk).then k19)
    clear ho hf hk k19
    obtain ⟨⟨a0, -⟩, ⟨a1, -⟩, a2, -⟩ := blk3 BF19.out
    obtain ⟨⟨b0, -⟩, ⟨b1, -⟩, b2, -⟩ := blk3 BG.out
    go_wp2_with fail
    refine (HAL.out fw fh ffl FL HFB.out _ _ _ _ _ OF19.out.sl.1 OG.out.sl.1).mono ?_; rintro e w20 ⟨rfl, hk⟩
    have HK20 := Lib.hid (HK19.out.then hk)
    clear hk
    go_wp2
    go_ret
    exact ⟨rfl, HK20.out⟩
theorem law_calls {mx my x y cw ch : Int} {a : Option Addr} {n cap : Nat} {zm : List Int} {c0 c1 c2 c3 : Int} {w : World} (f0 : (Lit.int .i64 mx).wf = true ∧ (Lit.int .i64 my).wf = true ∧ IsRow .u8 w a n cap zm)
    (f1 : (Lit.int .i64 x).wf = true) (f2 : (Lit.int .i64 y).wf = true) (f3 : (Lit.int .i64 cw).wf = true) (f4 : (Lit.int .i64 ch).wf = true)
    (f5 : (Lit.int .u8 c0).wf = true ∧ (Lit.int .u8 c1).wf = true ∧ (Lit.int .u8 c2).wf = true ∧ (Lit.int .u8 c3).wf = true) :
    Calls Try.prog 9 #[.agg #[.int .i64 mx, .int .i64 my, .slice a n cap], .int .i64 x, .int .i64 y, .int .i64 cw, .int .i64 ch, .agg #[.int .u8 c0, .int .u8 c1, .int .u8 c2, .int .u8 c3]] w fun e w' => e = .returned (.bool true) ∧ Below w.heap.size w w' := by
  refine Calls.mono (R := fun e w' => e = .returned (.bool true) ∧ Kept (fun _ => False) w w') ?_ fun _ _ h => ⟨h.1, h.2.below⟩
  obtain ⟨s1, l1, m1, b1, -, n1⟩ := f0.2.2.slAt
  by_cases h : 16384 < n
  · exact calls_few mx my (zm.take n) x y cw ch a n cap c0 c1 c2 c3 w (int_of_wf f0.1) (int_of_wf f0.2.1) s1.1 (by omega) h
  cases hr : rightM ⟨mx, my, zm.take n⟩ with
  | false => exact calls_wrong mx my (zm.take n) x y cw ch a n cap c0 c1 c2 c3 w (int_of_wf f0.1) (int_of_wf f0.2.1) s1.1 (by omega) (by omega) hr
  | true =>
    obtain ⟨W, H, e1, e2⟩ := nats_of hr
    simp only at e1 e2
    subst e1
    subst e2
    refine calls_near W H (zm.take n) x y cw ch a n cap c0 c1 c2 c3 w (int_of_wf f1) (int_of_wf f2) (int_of_wf f3) (int_of_wf f4) (by omega) hr s1 (fun v hv => by have := byte_of_wf (b1 v hv); omega) l1 m1 n1 ?_
    intro v hv
    simp only [List.mem_cons, List.not_mem_nil, or_false] at hv
    rcases hv with rfl | rfl | rfl | rfl
    · have := byte_of_wf f5.1; omega
    · have := byte_of_wf f5.2.1; omega
    · have := byte_of_wf f5.2.2.1; omega
    · have := byte_of_wf f5.2.2.2; omega

end Go.Proofs.Ytgejefhnoloebaa
