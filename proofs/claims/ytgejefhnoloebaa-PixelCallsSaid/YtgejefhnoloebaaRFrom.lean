/- The document's matrices out of bytes. -/
import Derived.Test.YtgejefhnoloebaaMat
import Derived.StillTailTactics
namespace Go.Proofs.Ytgejefhnoloebaa
open Go.RowKit Go.Sort
set_option linter.unusedVariables false
set_option linter.unusedSimpArgs false
def smallB (w h : Int) : Bool := decide (w < 1 ∨ h < 1 ∨ w > 16384 ∨ h > 16384 ∨ w * h ≤ 4096)

set_option maxRecDepth 100000 in
set_option maxHeartbeats 4000000 in
theorem small_any (w h : Int) (wd : World) : Calls Try.prog 17 #[.int .i64 w, .int .i64 h] wd fun e w' => e = .returned (.bool (smallB w h)) ∧ wd = w' := by
  by_cases z1 : w < 1
  · have gz1 : decide (w < 1) = true := decide_eq_true z1
    have HE := Lib.hid (show smallB w h = true from decide_eq_true (by omega))
    clear z1
    go_enter Try.func17, Try.ntmps17
    go_wp2
    go_ret
    exact ⟨ret_bool (by rw [HE.out]), rfl⟩
  have gz1 : decide (w < 1) = false := decide_eq_false z1
  by_cases z2 : h < 1
  · have gz2 : decide (h < 1) = true := decide_eq_true z2
    have HE := Lib.hid (show smallB w h = true from decide_eq_true (by omega))
    clear z2
    go_enter Try.func17, Try.ntmps17
    go_wp2
    go_ret
    exact ⟨ret_bool (by rw [HE.out]), rfl⟩
  have gz2 : decide (h < 1) = false := decide_eq_false z2
  by_cases z3 : 16384 < w
  · have gz3 : decide (16384 < w) = true := decide_eq_true z3
    have HE := Lib.hid (show smallB w h = true from decide_eq_true (by omega))
    clear z3
    go_enter Try.func17, Try.ntmps17
    go_wp2
    go_ret
    exact ⟨ret_bool (by rw [HE.out]), rfl⟩
  have gz3 : decide (16384 < w) = false := decide_eq_false z3
  by_cases z4 : 16384 < h
  · have gz4 : decide (16384 < h) = true := decide_eq_true z4
    have HE := Lib.hid (show smallB w h = true from decide_eq_true (by omega))
    clear z4
    go_enter Try.func17, Try.ntmps17
    go_wp2
    go_ret
    exact ⟨ret_bool (by rw [HE.out]), rfl⟩
  have gz4 : decide (16384 < h) = false := decide_eq_false z4
  have p1 : 0 ≤ w * h := Int.mul_nonneg (by omega) (by omega)
  have p2 : w * h ≤ 16384 * 16384 := Int.mul_le_mul (by omega) (by omega) (by omega) (by omega)
  have HE := Lib.hid (show smallB w h = decide (w * h ≤ 4096) from decide_eq_decide.2 (by omega))
  obtain ⟨q, hq⟩ : ∃ q, w * h = q := ⟨_, rfl⟩
  rw [hq] at HE p1 p2
  by_cases z5 : q ≤ 4096
  · have gz5 : decide (q ≤ 4096) = true := decide_eq_true z5
    have HZ := Lib.hid z5
    clear z5
    go_enter Try.func17, Try.ntmps17
    go_wp2
    go_ret
    exact ⟨ret_bool (by rw [HE.out]; exact (decide_eq_true HZ.out).symm), rfl⟩
  · have gz5 : decide (q ≤ 4096) = false := decide_eq_false z5
    have HZ := Lib.hid z5
    clear z5
    go_enter Try.func17, Try.ntmps17
    go_wp2
    go_ret
    exact ⟨ret_bool (by rw [HE.out]; exact (decide_eq_false (by have := HZ.out; omega)).symm), rfl⟩

theorem tab_set {n : Nat} {f : Nat → Int} {i : Nat} (h : i < n) (v : Int) : (tab n f).set i v = tab n (fun j => if j = i then v else f j) := by
  refine list_ext (by simp [tab_length]) (fun j hj => ?_)
  simp only [List.length_set, tab_length] at hj
  rw [getD_set (by rw [tab_length]; exact h), tab_get (f := f) hj, tab_get (f := fun j => if j = i then v else f j) hj]
/-- Bytes of a matrix of which i pixels are laid, and k bytes of the next. -/
def fromK (per : Nat) (b : List Int) (i k : Nat) (q : Nat) : Int := if q < 4 * i then fromT per b q else if q < 4 * i + k then b.getD (per * i + (q - 4 * i)) 0 else if q = 4 * i + 3 then 255 else 0
theorem fromK_0 (per : Nat) (b : List Int) (i n : Nat) : tab n (fun j => if j = 4 * i + 3 then 255 else fromF per b i j) = tab n (fromK per b i 0) := by
  refine tab_ext fun j hj => ?_
  unfold fromK fromF
  by_cases h1 : j < 4 * i
  · have h2 : ¬ j = 4 * i + 3 := by omega
    simp only [h1, h2, if_true, if_false]; rfl
  · have h3 : ¬ j < 4 * i + 0 := by omega
    simp only [h1, h3, if_false]
theorem fromK_s (per : Nat) (b : List Int) (i k n : Nat) (hk : k < per) (hp : per ≤ 4) : tab n (fun j => if j = 4 * i + k then b.getD (per * i + k) 0 else fromK per b i k j) = tab n (fromK per b i (k + 1)) := by
  refine tab_ext fun j hj => ?_
  unfold fromK
  by_cases h0 : j = 4 * i + k
  · have h1 : ¬ j < 4 * i := by omega
    have h2 : j < 4 * i + (k + 1) := by omega
    simp only [h0, if_true]
    rw [if_neg (by omega), if_pos (by omega)]
    congr 1; omega
  · by_cases h1 : j < 4 * i
    · simp only [h0, h1, if_true, if_false]
    · by_cases h2 : j < 4 * i + k
      · have h3 : j < 4 * i + (k + 1) := by omega
        simp only [h0, h1, h2, h3, if_true, if_false]
      · have h3 : ¬ j < 4 * i + (k + 1) := by omega
        simp only [h0, h1, h2, h3, if_false]
theorem fromK_n (per : Nat) (b : List Int) (i n : Nat) (hp : per = 3 ∨ per = 4) : tab n (fromK per b i per) = tab n (fromF per b (i + 1)) := by
  refine tab_ext fun j hj => ?_
  unfold fromK fromF fromT
  by_cases h1 : j < 4 * i
  · have h2 : j < 4 * (i + 1) := by omega
    simp only [h1, h2, if_true]
  · by_cases h2 : j < 4 * (i + 1)
    · have hd : j / 4 = i := by omega
      have hm : j % 4 = j - 4 * i := by omega
      rw [hd, hm]
      by_cases h3 : j < 4 * i + per
      · have h4 : j - 4 * i < per := by omega
        simp only [h1, h2, h3, h4, if_true, if_false]
      · have h4 : ¬ j - 4 * i < per := by omega
        have h5 : j = 4 * i + 3 := by omega
        simp only [h1, h2, h3, h4, if_true, if_false, if_pos h5]
    · have h3 : ¬ j < 4 * i + per := by omega
      have h5 : ¬ j = 4 * i + 3 := by omega
      simp only [h1, h2, h3, h5, if_false]

set_option maxRecDepth 100000 in
set_option maxHeartbeats 4000000 in
theorem rnew_no (w h : Int) (wd : World) (hw : I64 w) (hh : I64 h) (hs : sizeB w h = false) :
    Calls Try.prog 20 #[.int .i64 w, .int .i64 h] wd fun e w' => e = .returned (.tuple #[mat0, .int .i64 1]) ∧ Kept (fun _ => False) wd w' := by
  have HC := Lib.hid (fun wd => show Calls Try.prog 43 #[.int .i64 w, .int .i64 h] wd fun e w' => e = .returned (.bool false) ∧ wd = w' from by have h := refSize_any w h wd hw hh; rw [hs] at h; exact h)
  clear hs hw hh
  go_enter Try.func20, Try.ntmps20
  go_wp2_with (go_at_call 43; refine (HC.out _).mono ?_; rintro e w' ⟨rfl, rfl⟩)
  refine bodyPost_ret (v := .tuple #[mat0, .int .i64 1]) (by simp [results, Try.results20, go_sem, mat0, mat]) rfl ⟨rfl, ?_⟩
  repeat (first | apply Kept.alloc | apply Kept.drew)
  exact Kept.refl _ _

set_option maxRecDepth 100000 in
set_option maxHeartbeats 4000000 in
theorem rnew_yes (w h : Int) (wd : World) (hs : sizeB w h = true) :
    Calls Try.prog 20 #[.int .i64 w, .int .i64 h] wd fun e w' => ∃ g n : Nat, (n : Int) = 4 * w * h ∧ e = .returned (.tuple #[mat w h (some ⟨g, 0, none⟩) n n, .int .i64 0]) ∧ wd.heap.size ≤ g ∧ Own .u8 5 w' (.slice (some ⟨g, 0, none⟩) n n) (List.replicate n 0) ∧ Kept (fun _ => False) wd w' := by
  obtain ⟨a1, a2, a3, a4, a5, a6, -⟩ := sizeB_t hs
  obtain ⟨i0, hi, hz0, hz1, hz2⟩ := info_parts Try.info5
  have hp : 4 * w * h = 4 * (w * h) := Int.mul_assoc ..
  obtain ⟨n, hn⟩ : ∃ n : Nat, (n : Int) = 4 * w * h := ⟨(4 * w * h).toNat, by omega⟩
  have hnb : n ≤ 268435456 := by omega
  have HN := Lib.hid hn
  have hn' : 4 * w * h = (n : Int) := hn.symm
  clear hn hp
  go_enter Try.func20, Try.ntmps20
  go_wp2_with (first
    | (go_at_call 43; refine (refSize_any _ _ _ (by omega) (by omega)).mono ?_; rw [hs]; rintro e w' ⟨rfl, rfl⟩)
    | (refine wpList_makeInts rfl (.tmp 16) (.tmp 16) 33 rfl 5 .u8 i0 1 Try.underlying33 hi hz0 hz1 hz2 .i64 .i64 _ _ n rfl rfl rfl rfl (by omega) (by simp [maxLen]; omega) ?_; intro w2 ho2 hk2 hs2; have hb2 := hk2.blk (blk_new wd _) id; obtain ⟨⟨c0, f0⟩, ⟨c1, f1⟩, c2, f2⟩ := blk3 hb2; have HO := Lib.hid ho2; clear ho2 hb2))
  have ho := HO.out
  rw [World.size_alloc] at ho hs2
  refine bodyPost_ret (v := .tuple #[mat w h (some ⟨wd.heap.size + 1, 0, none⟩) n n, .int .i64 0]) (by simp [results, Try.results20, go_sem, mat, c0, c1, c2]) rfl ⟨wd.heap.size + 1, n, HN.out, rfl, by omega, ?_, ?_⟩
  · refine ho.kept (S := fun k => k = wd.heap.size) ?_ (fun b h => by cases h; exact Nat.succ_ne_self _)
    repeat (refine Kept.setCell ?_ (Or.inl (by rfl)) _)
    exact Kept.refl _ _
  · repeat (refine Kept.setCell ?_ (Or.inr (by exact Nat.le_refl _)) _)
    exact (Kept.trans ((Kept.refl _ wd).alloc _) (hk2.mono (fun _ _ h => h.elim)))

set_option maxRecDepth 100000 in
set_option maxHeartbeats 4000000 in
theorem rfrom_no (w h per : Int) (a0 : Option Addr) (len cap : Nat) (wd : World) (hw : I64 w) (hh : I64 h) (hs : sizeB w h = false) :
    Calls Try.prog 22 #[.int .i64 w, .int .i64 h, .slice a0 len cap, .int .i64 per] wd fun e w' => e = .returned (.tuple #[mat0, .int .i64 1]) ∧ Kept (fun _ => False) wd w' := by
  go_enter Try.func22, Try.ntmps22
  go_wp2_with fail
  refine (rnew_no w h _ hw hh hs).mono ?_
  rintro e w1 ⟨rfl, hk⟩
  have hc1 := hk.blk (blk_new wd _) id
  obtain ⟨⟨c0, f0⟩, ⟨c1, f1⟩, c2, f2⟩ := blk3 hc1
  have hkk : Kept (fun _ => False) wd w1 := ((Kept.refl _ _).alloc _).then hk
  have hz := hk.size
  clear hc1 hk
  simp only [World.size_alloc] at hz
  have hz' : wd.heap.size < w1.heap.size := hz
  unfold mat0 mat
  go_wp2
  refine bodyPost_ret (v := .tuple #[mat0, .int .i64 1]) (by simp [results, Try.results22, go_sem, mat0, mat, hz', c0, c1, c2]) rfl ⟨rfl, ?_⟩
  repeat (first | (refine Kept.alloc ?_ _) | (refine Kept.setCell ?_ (Or.inr (by exact Nat.le_refl _)) _))
  exact hkk

set_option maxRecDepth 100000 in
set_option maxHeartbeats 4000000 in
theorem rfrom3_bad (w h : Int) (a0 : Option Addr) (len cap : Nat) (wd : World) (hs : sizeB w h = true) (hl : len ≤ 9223372036854775807) (hne : (len : Int) ≠ 3 * w * h) :
    Calls Try.prog 22 #[.int .i64 w, .int .i64 h, .slice a0 len cap, .int .i64 3] wd fun e w' => e = .returned (.tuple #[mat0, .int .i64 (if (len : Int) < 3 * w * h then 2 else 5)]) ∧ Kept (fun _ => False) wd w' := by
  obtain ⟨a1, a2, a3, a4, a5, a6, -⟩ := sizeB_t hs
  have hp : 3 * w * h = 3 * (w * h) := Int.mul_assoc ..
  obtain ⟨m, hm⟩ : ∃ m : Nat, (m : Int) = w * h := ⟨(w * h).toNat, by omega⟩
  have hmb : m ≤ 67108864 := by omega
  have HM := Lib.hid hm
  have hm' := hm.symm
  have hq : 3 * w * h = 3 * (m : Int) := by rw [hp, hm']
  have hr : 3 * w ≤ 49152 := by omega
  rw [hq] at hne ⊢
  obtain ⟨r, hr'⟩ : ∃ r : Int, (if (len : Int) < 3 * (m : Int) then 2 else 5) = r := ⟨_, rfl⟩
  have HR := Lib.hid hr'
  rw [hr']
  clear hp hm hr'
  go_enter Try.func22, Try.ntmps22
  go_wp2_with fail
  refine (rnew_yes w h _ hs).mono ?_
  rintro e w1 ⟨g, n, hn, rfl, hg, ho, hk⟩
  have hc1 := hk.blk (blk_new wd _) id
  have hn4 : n = 4 * m := by have := HM.out; have h4 : 4 * w * h = 4 * (w * h) := Int.mul_assoc ..; omega
  subst hn4
  have HC := Lib.hid hc1
  have HN := Lib.hid hn
  have HO := Lib.hid ho
  clear hn ho hc1
  unfold mat
  obtain ⟨W, hW⟩ : ∃ W, w1.alloc (.cells #[.int .i64 w, .int .i64 h, .slice (some ⟨g, 0, none⟩) (4 * m) (4 * m)] 41) = W := ⟨_, rfl⟩
  obtain ⟨P0, hP0⟩ : ∃ P0, w1.heap.size = P0 := ⟨_, rfl⟩
  have hkW : Kept (fun _ => False) w1 W := by rw [← hW]; exact (Kept.refl _ _).alloc _
  have hb0 : W.heap[P0]? = some (.cells #[.int .i64 w, .int .i64 h, .slice (some ⟨g, 0, none⟩) (4 * m) (4 * m)] 41 (0, 0)) := by rw [← hW, ← hP0]; exact blk_new _ _
  have hP0l : wd.heap.size < P0 := by have := hk.size; simp at this; omega
  have hg' : wd.heap.size < g := by have h := hg; simp at h; omega
  have hkk : Kept (fun _ => False) wd W := (((Kept.refl _ _).alloc _).then hk).then hkW
  have hgP : g ≠ P0 := by have := HO.out.at.2.2.1; omega
  have HOW := Lib.hid (HO.out.kept hkW (fun _ _ => id))
  have HCW := Lib.hid (hkW.blk HC.out id)
  obtain ⟨⟨c0, f0⟩, ⟨c1, f1⟩, c2, f2⟩ := blk3 hb0
  obtain ⟨⟨d0, e0⟩, ⟨d1, e1⟩, d2, e2⟩ := blk3 HCW.out
  have HB0 := Lib.hid hb0
  have HKK := Lib.hid hkk
  clear hg hk hkW hb0 hkk
  by_cases hlt : (len : Int) < 3 * (m : Int)
  · have g1 : decide ((len : Int) < 3 * (m : Int)) = true := decide_eq_true hlt
    have HR2 := Lib.hid (show r = 2 by rw [← HR.out, if_pos hlt])
    clear hlt hne
    go_wp2
    refine bodyPost_ret (v := .tuple #[mat0, .int .i64 2]) (by simp [results, Try.results22, go_sem, mat0, mat, d0, d1, d2]) rfl ⟨by rw [HR2.out], ?_⟩
    repeat (first | exact HKK.out | (refine Kept.setCell ?_ (Or.inr (by exact Nat.le_refl _)) _))
  · have g1 : decide ((len : Int) < 3 * (m : Int)) = false := decide_eq_false hlt
    have g2 : decide (3 * (m : Int) < (len : Int)) = true := decide_eq_true (by omega)
    have HR2 := Lib.hid (show r = 5 by rw [← HR.out, if_neg hlt])
    clear hlt hne
    go_wp2
    refine bodyPost_ret (v := .tuple #[mat0, .int .i64 5]) (by simp [results, Try.results22, go_sem, mat0, mat, d0, d1, d2]) rfl ⟨by rw [HR2.out], ?_⟩
    repeat (first | exact HKK.out | (refine Kept.setCell ?_ (Or.inr (by exact Nat.le_refl _)) _))

set_option maxRecDepth 100000 in
set_option maxHeartbeats 4000000 in
theorem rfrom3_yes (w h : Int) (a0 : Option Addr) (len cap : Nat) (xs : List Int) (wd : World) (hs : sizeB w h = true) (hx : SlAt .u8 wd a0 len xs) (hc : len ≤ cap) (hcm : cap ≤ 9223372036854775807) (hl : (len : Int) = 3 * w * h) (hbw : ∀ b off, 0 < len → a0 = some ⟨b, off, none⟩ → b < wd.heap.size) :
    Calls Try.prog 22 #[.int .i64 w, .int .i64 h, .slice a0 len cap, .int .i64 3] wd fun e w' =>
      ∃ g n : Nat, (n : Int) = 4 * w * h ∧ e = .returned (.tuple #[mat w h (some ⟨g, 0, none⟩) n n, .int .i64 0]) ∧ wd.heap.size ≤ g ∧ Own .u8 5 w' (.slice (some ⟨g, 0, none⟩) n n) (tab n (fromT 3 xs)) ∧ Kept (fun _ => False) wd w' := by
  obtain ⟨a1, a2, a3, a4, a5, a6, -⟩ := sizeB_t hs
  have hp : 3 * w * h = 3 * (w * h) := Int.mul_assoc ..
  obtain ⟨m, hm⟩ : ∃ m : Nat, (m : Int) = w * h := ⟨(w * h).toNat, by omega⟩
  have hmb : m ≤ 67108864 := by omega
  have HM := Lib.hid hm
  have hm' := hm.symm
  have hq : 3 * w * h = 3 * (m : Int) := by rw [hp, hm']
  have hr : 3 * w ≤ 49152 := by omega
  have hlm : len = 3 * m := by omega
  have HX := Lib.hid hx
  clear hp hm hl hx
  subst hlm
  go_enter Try.func22, Try.ntmps22
  go_wp2_with fail
  refine (rnew_yes w h _ hs).mono ?_
  rintro e w1 ⟨g, n, hn, rfl, hg, ho, hk⟩
  have hc1 := hk.blk (blk_new wd _) id
  have hn4 : n = 4 * m := by have := HM.out; have h4 : 4 * w * h = 4 * (w * h) := Int.mul_assoc ..; omega
  subst hn4
  have HC := Lib.hid hc1
  have HN := Lib.hid hn
  have HO := Lib.hid ho
  clear hn ho hc1
  unfold mat
  obtain ⟨W, hW⟩ : ∃ W, w1.alloc (.cells #[.int .i64 w, .int .i64 h, .slice (some ⟨g, 0, none⟩) (4 * m) (4 * m)] 41) = W := ⟨_, rfl⟩
  obtain ⟨P0, hP0⟩ : ∃ P0, w1.heap.size = P0 := ⟨_, rfl⟩
  have hkW : Kept (fun _ => False) w1 W := by rw [← hW]; exact (Kept.refl _ _).alloc _
  have hb0 : W.heap[P0]? = some (.cells #[.int .i64 w, .int .i64 h, .slice (some ⟨g, 0, none⟩) (4 * m) (4 * m)] 41 (0, 0)) := by rw [← hW, ← hP0]; exact blk_new _ _
  have hP0l : wd.heap.size < P0 := by have := hk.size; simp at this; omega
  have hg' : wd.heap.size < g := by have h := hg; simp at h; omega
  have hkk : Kept (fun _ => False) wd W := (((Kept.refl _ _).alloc _).then hk).then hkW
  have hgP : g ≠ P0 := by have := HO.out.at.2.2.1; omega
  have HOW := Lib.hid (HO.out.kept hkW (fun _ _ => id))
  have HCW := Lib.hid (hkW.blk HC.out id)
  obtain ⟨⟨c0, f0⟩, ⟨c1, f1⟩, c2, f2⟩ := blk3 hb0
  obtain ⟨⟨d0, e0⟩, ⟨d1, e1⟩, d2, e2⟩ := blk3 HCW.out
  have HB0 := Lib.hid hb0
  have HKK := Lib.hid hkk
  clear hg hk hkW hb0 hkk
  have g1 : decide (((3 * m : Nat) : Int) < 3 * (m : Int)) = false := decide_eq_false (by omega)
  have g2 : decide (3 * (m : Int) < ((3 * m : Nat) : Int)) = false := decide_eq_false (by omega)
  go_wp2
  clear hW hP0 c0 f0 c1 f1 c2 f2 d0 d1 d2 e0 e1 e2 g1 g2
  go_loopg [12, 13] m (fun gg i _ wr => ∃ k : Nat, k ≤ m ∧ m ≤ gg + k ∧ i = .int .i64 k ∧ wr.heap[P0]? = some (.cells #[.int .i64 w, .int .i64 h, .slice (some ⟨g, 0, none⟩) (4 * m) (4 * m)] 41 (0, 0)) ∧ Own .u8 5 wr (.slice (some ⟨g, 0, none⟩) (4 * m) (4 * m)) (tab (4 * m) (fromF 3 xs k)) ∧ Kept (fun _ => False) wd wr ∧ wr.heap[wd.heap.size]? = some (.cells #[.int .i64 0, .int .i64 0, .slice none 0 0] 41 (0, 0)))
  case atStart => exact ⟨0, Nat.zero_le _, by omega, rfl, HB0.out, by have h := HOW.out; rw [tab_zero] at h; exact (tab_ext (n := 4 * m) (f := fun _ => 0) (g := fromF 3 xs 0) (fun j _ => by simp [fromF])) ▸ h, HKK.out, HCW.out⟩
  case round =>
    obtain ⟨k, hk, hgg, rfl, hbr, hor, hkr, hrb⟩ := hrel
    obtain ⟨⟨c0, f0⟩, ⟨c1, f1⟩, c2, f2⟩ := blk3 hbr
    by_cases hkm : k < m
    · have hgk : decide ((k : Int) < (m : Int)) = true := decide_eq_true (by omega)
      obtain ⟨-, -, hgw, hcells, hfr⟩ := hor.at
      have d3 := hcells (4 * k + 3) (by omega)
      have e3 := hfr (4 * k + 3)
      obtain ⟨V, hV⟩ : ∃ V, wr.setCell ⟨g, 4 * k + 3, none⟩ (.int .u8 255) = V := ⟨_, rfl⟩
      have ho1 : Own .u8 5 V (.slice (some ⟨g, 0, none⟩) (4 * m) (4 * m)) (tab (4 * m) (fromK 3 xs k 0)) := by
        rw [← hV, ← fromK_0, ← tab_set (by omega)]; exact hor.set (by omega) 255
      have kV : Kept (fun i => i = g) wr V := by rw [← hV]; exact (Kept.refl (fun i => i = g) _).setCell (p := ⟨g, 4 * k + 3, none⟩) (.inl rfl) _
      have HB1 := Lib.hid (kV.blk hbr (fun h => hgP h.symm))
      have HR1 := Lib.hid (kV.blk hrb (fun (h : wd.heap.size = g) => by omega))
      have HK1 := Lib.hid (hkr.trans (kV.mono fun i _ hi => Or.inr (by have h9 : i = g := hi; omega)))
      have HO1 := Lib.hid ho1
      clear ho1 kV hcells hfr hor hbr hkr hrb
      obtain ⟨gko, hgo⟩ : ∃ x, x = gk := ⟨_, rfl⟩
      subst hgo
      go_wp2
      clear hV d3 e3 c0 f0 c1 f1 c2 f2
      go_loopg [13] 3 (fun gj j wr => ∃ q : Nat, q ≤ 3 ∧ 3 ≤ gj + q ∧ j = .int .i64 q ∧ wr.heap[P0]? = some (.cells #[.int .i64 w, .int .i64 h, .slice (some ⟨g, 0, none⟩) (4 * m) (4 * m)] 41 (0, 0)) ∧ Own .u8 5 wr (.slice (some ⟨g, 0, none⟩) (4 * m) (4 * m)) (tab (4 * m) (fromK 3 xs k q)) ∧ Kept (fun _ => False) wd wr ∧ wr.heap[wd.heap.size]? = some (.cells #[.int .i64 0, .int .i64 0, .slice none 0 0] 41 (0, 0)))
      case atStart => exact ⟨0, by omega, by omega, rfl, HB1.out, HO1.out, HK1.out, HR1.out⟩
      case round =>
        obtain ⟨q, hq4, hgj, rfl, hbr, hor, hkr, hrb⟩ := hrel
        obtain ⟨⟨c0, f0⟩, ⟨c1, f1⟩, c2, f2⟩ := blk3 hbr
        by_cases hq3 : q < 3
        · have gq : decide ((q : Int) < 3) = true := decide_eq_true (by omega)
          obtain ⟨-, -, hgw2, hcells, hfr⟩ := hor.at
          have d3 := hcells (4 * k + q) (by omega)
          have e3 := hfr (4 * k + q)
          obtain ⟨b, off, rfl, hcx⟩ := HX.out.2.resolve_left (by omega)
          have hbd : b < wd.heap.size := hbw b off (by omega) rfl
          have x3 := hkr.cell (hcx (3 * k + q) (by omega)) id
          obtain ⟨z, hz⟩ : ∃ z, xs.getD (3 * k + q) 0 = z := ⟨_, rfl⟩
          rw [hz] at x3
          obtain ⟨V, hV⟩ : ∃ V, wr.setCell ⟨g, 4 * k + q, none⟩ (.int .u8 z) = V := ⟨_, rfl⟩
          have ho1 : Own .u8 5 V (.slice (some ⟨g, 0, none⟩) (4 * m) (4 * m)) (tab (4 * m) (fromK 3 xs k (q + 1))) := by
            rw [← hV, ← fromK_s 3 xs k q (4 * m) hq3 (by omega), ← tab_set (by omega), hz]; exact hor.set (by omega) z
          have kV : Kept (fun i => i = g) wr V := by rw [← hV]; exact (Kept.refl (fun i => i = g) _).setCell (p := ⟨g, 4 * k + q, none⟩) (.inl rfl) _
          have HB2 := Lib.hid (kV.blk hbr (fun h => hgP h.symm))
          have HR2 := Lib.hid (kV.blk hrb (fun (h : wd.heap.size = g) => by omega))
          have HK2 := Lib.hid (hkr.trans (kV.mono fun i _ hi => Or.inr (by have h9 : i = g := hi; omega)))
          have HO2 := Lib.hid ho1
          clear ho1 kV hcells hfr hor hbr hkr hrb hz hcx
          have v1 : IntKind.i64.wrap (4 * (k : Int)) = 4 * (k : Int) := IntWalk.i64_in _ (by omega)
          have v2 : IntKind.i64.wrap (3 * (k : Int)) = 3 * (k : Int) := IntWalk.i64_in _ (by omega)
          have v3 : IntKind.i64.wrap (4 * (k : Int) + (q : Int)) = 4 * (k : Int) + (q : Int) := IntWalk.i64_in _ (by omega)
          have v4 : IntKind.i64.wrap (3 * (k : Int) + (q : Int)) = 3 * (k : Int) + (q : Int) := IntWalk.i64_in _ (by omega)
          have n3 : 0 ≤ 4 * (k : Int) + (q : Int) := by omega
          have n4 : 0 ≤ 3 * (k : Int) + (q : Int) := by omega
          have t3 : (4 * (k : Int) + (q : Int)).toNat = 4 * k + q := by omega
          have t4 : (3 * (k : Int) + (q : Int)).toNat = 3 * k + q := by omega
          have l3 : 4 * (k : Int) + (q : Int) < ((4 * m : Nat) : Int) := by omega
          have l4 : 3 * (k : Int) + (q : Int) < ((3 * m : Nat) : Int) := by omega
          have l5 : 4 * (k : Int) + (q : Int) < 4 * (m : Int) := by omega
          have l6 : 3 * (k : Int) + (q : Int) < 3 * (m : Int) := by omega
          go_wp2
          go_still_tail 15, (by kernel_rfl)
          clear v1 v2 v3 v4 n3 n4 t3 t4 l3 l4 l5 l6
          change wpList _ _ _ _ _ wr.drew
          go_wp2
          go_roundg (gk - 1)
          case rel => exact ⟨q + 1, by omega, by omega, by go_num, HB2.out, HO2.out.kept (Kept.refl (fun _ => False) _).drew (fun _ _ => id), HK2.out.drew, HR2.out⟩
          case measure => omega
        · obtain rfl : q = 3 := by omega
          have gq : decide (((3 : Nat) : Int) < 3) = false := decide_eq_false (by omega)
          rw [fromK_n 3 xs k _ (by omega)] at hor
          have HB2 := Lib.hid hbr
          have HR2 := Lib.hid hrb
          have HK2 := Lib.hid hkr
          have HO2 := Lib.hid hor
          clear hbr hrb hkr hor
          go_wp2
          go_roundg (gko - 1)
          case rel => exact ⟨k + 1, by omega, by omega, by go_num, HB2.out, HO2.out, HK2.out, HR2.out⟩
          case measure => omega
    · obtain rfl : k = m := by omega
      have hgk : decide ((k : Int) < (k : Int)) = false := decide_eq_false (by omega)
      rw [fromT_eq] at hor
      have HO2 := Lib.hid hor
      have HK2 := Lib.hid hkr
      obtain ⟨⟨r0, s0⟩, ⟨r1, s1⟩, r2, s2⟩ := blk3 hrb
      have HRB := Lib.hid hrb
      clear hor hkr hrb
      go_wp2
      refine bodyPost_ret (v := .tuple #[mat w h (some ⟨g, 0, none⟩) (4 * k) (4 * k), .int .i64 0]) (by simp [results, Try.results22, go_sem, mat, r0, r1, r2]) rfl ⟨g, 4 * k, HN.out, rfl, by omega, ?_, ?_⟩
      · refine HO2.out.kept (S := fun i => i = wd.heap.size) ?_ (fun b h => by cases h; show ¬ g = wd.heap.size; omega)
        repeat (refine Kept.setCell ?_ (Or.inl (by rfl)) _)
        exact Kept.refl _ _
      · repeat (refine Kept.setCell ?_ (Or.inr (by exact Nat.le_refl _)) _)
        exact HK2.out

set_option maxRecDepth 100000 in
set_option maxHeartbeats 4000000 in
theorem rfrom4_bad (w h : Int) (a0 : Option Addr) (len cap : Nat) (wd : World) (hs : sizeB w h = true) (hl : len ≤ 9223372036854775807) (hne : (len : Int) ≠ 4 * w * h) :
    Calls Try.prog 22 #[.int .i64 w, .int .i64 h, .slice a0 len cap, .int .i64 4] wd fun e w' => e = .returned (.tuple #[mat0, .int .i64 (if (len : Int) < 4 * w * h then 2 else 5)]) ∧ Kept (fun _ => False) wd w' := by
  obtain ⟨a1, a2, a3, a4, a5, a6, -⟩ := sizeB_t hs
  have hp : 4 * w * h = 4 * (w * h) := Int.mul_assoc ..
  obtain ⟨m, hm⟩ : ∃ m : Nat, (m : Int) = w * h := ⟨(w * h).toNat, by omega⟩
  have hmb : m ≤ 67108864 := by omega
  have HM := Lib.hid hm
  have hm' := hm.symm
  have hq : 4 * w * h = 4 * (m : Int) := by rw [hp, hm']
  have hr : 4 * w ≤ 65536 := by omega
  rw [hq] at hne ⊢
  obtain ⟨r, hr'⟩ : ∃ r : Int, (if (len : Int) < 4 * (m : Int) then 2 else 5) = r := ⟨_, rfl⟩
  have HR := Lib.hid hr'
  rw [hr']
  clear hp hm hr'
  go_enter Try.func22, Try.ntmps22
  go_wp2_with fail
  refine (rnew_yes w h _ hs).mono ?_
  rintro e w1 ⟨g, n, hn, rfl, hg, ho, hk⟩
  have hc1 := hk.blk (blk_new wd _) id
  have hn4 : n = 4 * m := by have := HM.out; have h4 : 4 * w * h = 4 * (w * h) := Int.mul_assoc ..; omega
  subst hn4
  have HC := Lib.hid hc1
  have HN := Lib.hid hn
  have HO := Lib.hid ho
  clear hn ho hc1
  unfold mat
  obtain ⟨W, hW⟩ : ∃ W, w1.alloc (.cells #[.int .i64 w, .int .i64 h, .slice (some ⟨g, 0, none⟩) (4 * m) (4 * m)] 41) = W := ⟨_, rfl⟩
  obtain ⟨P0, hP0⟩ : ∃ P0, w1.heap.size = P0 := ⟨_, rfl⟩
  have hkW : Kept (fun _ => False) w1 W := by rw [← hW]; exact (Kept.refl _ _).alloc _
  have hb0 : W.heap[P0]? = some (.cells #[.int .i64 w, .int .i64 h, .slice (some ⟨g, 0, none⟩) (4 * m) (4 * m)] 41 (0, 0)) := by rw [← hW, ← hP0]; exact blk_new _ _
  have hP0l : wd.heap.size < P0 := by have := hk.size; simp at this; omega
  have hg' : wd.heap.size < g := by have h := hg; simp at h; omega
  have hkk : Kept (fun _ => False) wd W := (((Kept.refl _ _).alloc _).then hk).then hkW
  have hgP : g ≠ P0 := by have := HO.out.at.2.2.1; omega
  have HOW := Lib.hid (HO.out.kept hkW (fun _ _ => id))
  have HCW := Lib.hid (hkW.blk HC.out id)
  obtain ⟨⟨c0, f0⟩, ⟨c1, f1⟩, c2, f2⟩ := blk3 hb0
  obtain ⟨⟨d0, e0⟩, ⟨d1, e1⟩, d2, e2⟩ := blk3 HCW.out
  have HB0 := Lib.hid hb0
  have HKK := Lib.hid hkk
  clear hg hk hkW hb0 hkk
  by_cases hlt : (len : Int) < 4 * (m : Int)
  · have g1 : decide ((len : Int) < 4 * (m : Int)) = true := decide_eq_true hlt
    have HR2 := Lib.hid (show r = 2 by rw [← HR.out, if_pos hlt])
    clear hlt hne
    go_wp2
    refine bodyPost_ret (v := .tuple #[mat0, .int .i64 2]) (by simp [results, Try.results22, go_sem, mat0, mat, d0, d1, d2]) rfl ⟨by rw [HR2.out], ?_⟩
    repeat (first | exact HKK.out | (refine Kept.setCell ?_ (Or.inr (by exact Nat.le_refl _)) _))
  · have g1 : decide ((len : Int) < 4 * (m : Int)) = false := decide_eq_false hlt
    have g2 : decide (4 * (m : Int) < (len : Int)) = true := decide_eq_true (by omega)
    have HR2 := Lib.hid (show r = 5 by rw [← HR.out, if_neg hlt])
    clear hlt hne
    go_wp2
    refine bodyPost_ret (v := .tuple #[mat0, .int .i64 5]) (by simp [results, Try.results22, go_sem, mat0, mat, d0, d1, d2]) rfl ⟨by rw [HR2.out], ?_⟩
    repeat (first | exact HKK.out | (refine Kept.setCell ?_ (Or.inr (by exact Nat.le_refl _)) _))

set_option maxRecDepth 100000 in
set_option maxHeartbeats 4000000 in
theorem rfrom4_yes (w h : Int) (a0 : Option Addr) (len cap : Nat) (xs : List Int) (wd : World) (hs : sizeB w h = true) (hx : SlAt .u8 wd a0 len xs) (hc : len ≤ cap) (hcm : cap ≤ 9223372036854775807) (hl : (len : Int) = 4 * w * h) (hbw : ∀ b off, 0 < len → a0 = some ⟨b, off, none⟩ → b < wd.heap.size) :
    Calls Try.prog 22 #[.int .i64 w, .int .i64 h, .slice a0 len cap, .int .i64 4] wd fun e w' =>
      ∃ g n : Nat, (n : Int) = 4 * w * h ∧ e = .returned (.tuple #[mat w h (some ⟨g, 0, none⟩) n n, .int .i64 0]) ∧ wd.heap.size ≤ g ∧ Own .u8 5 w' (.slice (some ⟨g, 0, none⟩) n n) (tab n (fromT 4 xs)) ∧ Kept (fun _ => False) wd w' := by
  obtain ⟨a1, a2, a3, a4, a5, a6, -⟩ := sizeB_t hs
  have hp : 4 * w * h = 4 * (w * h) := Int.mul_assoc ..
  obtain ⟨m, hm⟩ : ∃ m : Nat, (m : Int) = w * h := ⟨(w * h).toNat, by omega⟩
  have hmb : m ≤ 67108864 := by omega
  have HM := Lib.hid hm
  have hm' := hm.symm
  have hq : 4 * w * h = 4 * (m : Int) := by rw [hp, hm']
  have hr : 4 * w ≤ 65536 := by omega
  have hlm : len = 4 * m := by omega
  have HX := Lib.hid hx
  clear hp hm hl hx
  subst hlm
  go_enter Try.func22, Try.ntmps22
  go_wp2_with fail
  refine (rnew_yes w h _ hs).mono ?_
  rintro e w1 ⟨g, n, hn, rfl, hg, ho, hk⟩
  have hc1 := hk.blk (blk_new wd _) id
  have hn4 : n = 4 * m := by have := HM.out; have h4 : 4 * w * h = 4 * (w * h) := Int.mul_assoc ..; omega
  subst hn4
  have HC := Lib.hid hc1
  have HN := Lib.hid hn
  have HO := Lib.hid ho
  clear hn ho hc1
  unfold mat
  obtain ⟨W, hW⟩ : ∃ W, w1.alloc (.cells #[.int .i64 w, .int .i64 h, .slice (some ⟨g, 0, none⟩) (4 * m) (4 * m)] 41) = W := ⟨_, rfl⟩
  obtain ⟨P0, hP0⟩ : ∃ P0, w1.heap.size = P0 := ⟨_, rfl⟩
  have hkW : Kept (fun _ => False) w1 W := by rw [← hW]; exact (Kept.refl _ _).alloc _
  have hb0 : W.heap[P0]? = some (.cells #[.int .i64 w, .int .i64 h, .slice (some ⟨g, 0, none⟩) (4 * m) (4 * m)] 41 (0, 0)) := by rw [← hW, ← hP0]; exact blk_new _ _
  have hP0l : wd.heap.size < P0 := by have := hk.size; simp at this; omega
  have hg' : wd.heap.size < g := by have h := hg; simp at h; omega
  have hkk : Kept (fun _ => False) wd W := (((Kept.refl _ _).alloc _).then hk).then hkW
  have hgP : g ≠ P0 := by have := HO.out.at.2.2.1; omega
  have HOW := Lib.hid (HO.out.kept hkW (fun _ _ => id))
  have HCW := Lib.hid (hkW.blk HC.out id)
  obtain ⟨⟨c0, f0⟩, ⟨c1, f1⟩, c2, f2⟩ := blk3 hb0
  obtain ⟨⟨d0, e0⟩, ⟨d1, e1⟩, d2, e2⟩ := blk3 HCW.out
  have HB0 := Lib.hid hb0
  have HKK := Lib.hid hkk
  clear hg hk hkW hb0 hkk
  have g1 : decide (((4 * m : Nat) : Int) < 4 * (m : Int)) = false := decide_eq_false (by omega)
  have g2 : decide (4 * (m : Int) < ((4 * m : Nat) : Int)) = false := decide_eq_false (by omega)
  go_wp2
  clear hW hP0 c0 f0 c1 f1 c2 f2 d0 d1 d2 e0 e1 e2 g1 g2
  go_loopg [12, 13] m (fun gg i _ wr => ∃ k : Nat, k ≤ m ∧ m ≤ gg + k ∧ i = .int .i64 k ∧ wr.heap[P0]? = some (.cells #[.int .i64 w, .int .i64 h, .slice (some ⟨g, 0, none⟩) (4 * m) (4 * m)] 41 (0, 0)) ∧ Own .u8 5 wr (.slice (some ⟨g, 0, none⟩) (4 * m) (4 * m)) (tab (4 * m) (fromF 4 xs k)) ∧ Kept (fun _ => False) wd wr ∧ wr.heap[wd.heap.size]? = some (.cells #[.int .i64 0, .int .i64 0, .slice none 0 0] 41 (0, 0)))
  case atStart => exact ⟨0, Nat.zero_le _, by omega, rfl, HB0.out, by have h := HOW.out; rw [tab_zero] at h; exact (tab_ext (n := 4 * m) (f := fun _ => 0) (g := fromF 4 xs 0) (fun j _ => by simp [fromF])) ▸ h, HKK.out, HCW.out⟩
  case round =>
    obtain ⟨k, hk, hgg, rfl, hbr, hor, hkr, hrb⟩ := hrel
    obtain ⟨⟨c0, f0⟩, ⟨c1, f1⟩, c2, f2⟩ := blk3 hbr
    by_cases hkm : k < m
    · have hgk : decide ((k : Int) < (m : Int)) = true := decide_eq_true (by omega)
      obtain ⟨-, -, hgw, hcells, hfr⟩ := hor.at
      have d3 := hcells (4 * k + 3) (by omega)
      have e3 := hfr (4 * k + 3)
      obtain ⟨V, hV⟩ : ∃ V, wr.setCell ⟨g, 4 * k + 3, none⟩ (.int .u8 255) = V := ⟨_, rfl⟩
      have ho1 : Own .u8 5 V (.slice (some ⟨g, 0, none⟩) (4 * m) (4 * m)) (tab (4 * m) (fromK 4 xs k 0)) := by
        rw [← hV, ← fromK_0, ← tab_set (by omega)]; exact hor.set (by omega) 255
      have kV : Kept (fun i => i = g) wr V := by rw [← hV]; exact (Kept.refl (fun i => i = g) _).setCell (p := ⟨g, 4 * k + 3, none⟩) (.inl rfl) _
      have HB1 := Lib.hid (kV.blk hbr (fun h => hgP h.symm))
      have HR1 := Lib.hid (kV.blk hrb (fun (h : wd.heap.size = g) => by omega))
      have HK1 := Lib.hid (hkr.trans (kV.mono fun i _ hi => Or.inr (by have h9 : i = g := hi; omega)))
      have HO1 := Lib.hid ho1
      clear ho1 kV hcells hfr hor hbr hkr hrb
      obtain ⟨gko, hgo⟩ : ∃ x, x = gk := ⟨_, rfl⟩
      subst hgo
      go_wp2
      clear hV d3 e3 c0 f0 c1 f1 c2 f2
      go_loopg [13] 4 (fun gj j wr => ∃ q : Nat, q ≤ 4 ∧ 4 ≤ gj + q ∧ j = .int .i64 q ∧ wr.heap[P0]? = some (.cells #[.int .i64 w, .int .i64 h, .slice (some ⟨g, 0, none⟩) (4 * m) (4 * m)] 41 (0, 0)) ∧ Own .u8 5 wr (.slice (some ⟨g, 0, none⟩) (4 * m) (4 * m)) (tab (4 * m) (fromK 4 xs k q)) ∧ Kept (fun _ => False) wd wr ∧ wr.heap[wd.heap.size]? = some (.cells #[.int .i64 0, .int .i64 0, .slice none 0 0] 41 (0, 0)))
      case atStart => exact ⟨0, by omega, by omega, rfl, HB1.out, HO1.out, HK1.out, HR1.out⟩
      case round =>
        obtain ⟨q, hq4, hgj, rfl, hbr, hor, hkr, hrb⟩ := hrel
        obtain ⟨⟨c0, f0⟩, ⟨c1, f1⟩, c2, f2⟩ := blk3 hbr
        by_cases hq3 : q < 4
        · have gq : decide ((q : Int) < 4) = true := decide_eq_true (by omega)
          obtain ⟨-, -, hgw2, hcells, hfr⟩ := hor.at
          have d3 := hcells (4 * k + q) (by omega)
          have e3 := hfr (4 * k + q)
          obtain ⟨b, off, rfl, hcx⟩ := HX.out.2.resolve_left (by omega)
          have hbd : b < wd.heap.size := hbw b off (by omega) rfl
          have x3 := hkr.cell (hcx (4 * k + q) (by omega)) id
          obtain ⟨z, hz⟩ : ∃ z, xs.getD (4 * k + q) 0 = z := ⟨_, rfl⟩
          rw [hz] at x3
          obtain ⟨V, hV⟩ : ∃ V, wr.setCell ⟨g, 4 * k + q, none⟩ (.int .u8 z) = V := ⟨_, rfl⟩
          have ho1 : Own .u8 5 V (.slice (some ⟨g, 0, none⟩) (4 * m) (4 * m)) (tab (4 * m) (fromK 4 xs k (q + 1))) := by
            rw [← hV, ← fromK_s 4 xs k q (4 * m) hq3 (by omega), ← tab_set (by omega), hz]; exact hor.set (by omega) z
          have kV : Kept (fun i => i = g) wr V := by rw [← hV]; exact (Kept.refl (fun i => i = g) _).setCell (p := ⟨g, 4 * k + q, none⟩) (.inl rfl) _
          have HB2 := Lib.hid (kV.blk hbr (fun h => hgP h.symm))
          have HR2 := Lib.hid (kV.blk hrb (fun (h : wd.heap.size = g) => by omega))
          have HK2 := Lib.hid (hkr.trans (kV.mono fun i _ hi => Or.inr (by have h9 : i = g := hi; omega)))
          have HO2 := Lib.hid ho1
          clear ho1 kV hcells hfr hor hbr hkr hrb hz hcx
          have v1 : IntKind.i64.wrap (4 * (k : Int)) = 4 * (k : Int) := IntWalk.i64_in _ (by omega)
          have v2 : IntKind.i64.wrap (4 * (k : Int)) = 4 * (k : Int) := IntWalk.i64_in _ (by omega)
          have v3 : IntKind.i64.wrap (4 * (k : Int) + (q : Int)) = 4 * (k : Int) + (q : Int) := IntWalk.i64_in _ (by omega)
          have v4 : IntKind.i64.wrap (4 * (k : Int) + (q : Int)) = 4 * (k : Int) + (q : Int) := IntWalk.i64_in _ (by omega)
          have n3 : 0 ≤ 4 * (k : Int) + (q : Int) := by omega
          have n4 : 0 ≤ 4 * (k : Int) + (q : Int) := by omega
          have t3 : (4 * (k : Int) + (q : Int)).toNat = 4 * k + q := by omega
          have t4 : (4 * (k : Int) + (q : Int)).toNat = 4 * k + q := by omega
          have l3 : 4 * (k : Int) + (q : Int) < ((4 * m : Nat) : Int) := by omega
          have l4 : 4 * (k : Int) + (q : Int) < ((4 * m : Nat) : Int) := by omega
          have l5 : 4 * (k : Int) + (q : Int) < 4 * (m : Int) := by omega
          have l6 : 4 * (k : Int) + (q : Int) < 4 * (m : Int) := by omega
          go_wp2
          go_still_tail 15, (by kernel_rfl)
          clear v1 v2 v3 v4 n3 n4 t3 t4 l3 l4 l5 l6
          change wpList _ _ _ _ _ wr.drew
          go_wp2
          go_roundg (gk - 1)
          case rel => exact ⟨q + 1, by omega, by omega, by go_num, HB2.out, HO2.out.kept (Kept.refl (fun _ => False) _).drew (fun _ _ => id), HK2.out.drew, HR2.out⟩
          case measure => omega
        · obtain rfl : q = 4 := by omega
          have gq : decide (((4 : Nat) : Int) < 4) = false := decide_eq_false (by omega)
          rw [fromK_n 4 xs k _ (by omega)] at hor
          have HB2 := Lib.hid hbr
          have HR2 := Lib.hid hrb
          have HK2 := Lib.hid hkr
          have HO2 := Lib.hid hor
          clear hbr hrb hkr hor
          go_wp2
          go_roundg (gko - 1)
          case rel => exact ⟨k + 1, by omega, by omega, by go_num, HB2.out, HO2.out, HK2.out, HR2.out⟩
          case measure => omega
    · obtain rfl : k = m := by omega
      have hgk : decide ((k : Int) < (k : Int)) = false := decide_eq_false (by omega)
      rw [fromT_eq] at hor
      have HO2 := Lib.hid hor
      have HK2 := Lib.hid hkr
      obtain ⟨⟨r0, s0⟩, ⟨r1, s1⟩, r2, s2⟩ := blk3 hrb
      have HRB := Lib.hid hrb
      clear hor hkr hrb
      go_wp2
      refine bodyPost_ret (v := .tuple #[mat w h (some ⟨g, 0, none⟩) (4 * k) (4 * k), .int .i64 0]) (by simp [results, Try.results22, go_sem, mat, r0, r1, r2]) rfl ⟨g, 4 * k, HN.out, rfl, by omega, ?_, ?_⟩
      · refine HO2.out.kept (S := fun i => i = wd.heap.size) ?_ (fun b h => by cases h; show ¬ g = wd.heap.size; omega)
        repeat (refine Kept.setCell ?_ (Or.inl (by rfl)) _)
        exact Kept.refl _ _
      · repeat (refine Kept.setCell ?_ (Or.inr (by exact Nat.le_refl _)) _)
        exact HK2.out

end Go.Proofs.Ytgejefhnoloebaa
