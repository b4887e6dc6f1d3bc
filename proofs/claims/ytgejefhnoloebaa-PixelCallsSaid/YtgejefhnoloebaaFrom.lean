/- Matrices out of bytes: what pixel.from computes. -/
import Derived.Test.YtgejefhnoloebaaNew
import Derived.Test.YtgejefhnoloebaaCopy
namespace Go.Proofs.Ytgejefhnoloebaa
open Go.RowKit
set_option linter.unusedVariables false
def Bytes (xs : List Int) : Prop := ∀ n ∈ xs, 0 ≤ n ∧ n < 256
/-! ### lists by their places -/
theorem list_ext {a b : List Int} (h : a.length = b.length) (h2 : ∀ j, j < a.length → a.getD j 0 = b.getD j 0) : a = b := by
  apply List.ext_getElem h
  intro j h3 h4
  have := h2 j h3
  simpa [h3, h4] using this
def tab (n : Nat) (f : Nat → Int) : List Int := (List.range n).map f
theorem tab_length (n : Nat) (f : Nat → Int) : (tab n f).length = n := by simp [tab]
theorem tab_get {n : Nat} {f : Nat → Int} {j : Nat} (h : j < n) : (tab n f).getD j 0 = f j := by simp [tab, h]
theorem getD_set {xs : List Int} {i : Nat} {v : Int} {j : Nat} (h : i < xs.length) : (xs.set i v).getD j 0 = if j = i then v else xs.getD j 0 := by
  simp only [List.getD_eq_getElem?_getD, List.getElem?_set]
  by_cases hj : i = j
  · subst hj; simp [h]
  · rw [if_neg hj, if_neg (fun h => hj h.symm)]
theorem getD_take {xs : List Int} {n j : Nat} (h : j < n) : (xs.take n).getD j 0 = xs.getD j 0 := by
  simp only [List.getD_eq_getElem?_getD, List.getElem?_take_of_lt h]
theorem getD_drop {xs : List Int} {n j : Nat} : (xs.drop n).getD j 0 = xs.getD (n + j) 0 := by
  simp only [List.getD_eq_getElem?_getD, List.getElem?_drop]
theorem tab_ext {n : Nat} {f g : Nat → Int} (h : ∀ j, j < n → f j = g j) : tab n f = tab n g := by
  apply list_ext (by simp [tab])
  intro j hj
  rw [tab_length] at hj
  rw [tab_get hj, tab_get hj, h j hj]
theorem tab_zero (n : Nat) : List.replicate n 0 = tab n (fun _ => 0) := by
  apply list_ext (by simp [tab])
  intro j hj
  have hj' : j < n := by simpa using hj
  rw [tab_get hj']; simp [hj']
theorem SlAt.sub {k : IntKind} {w : World} {b off len at_ n : Nat} {xs : List Int} (h : SlAt k w (some ⟨b, off, none⟩) len xs) (hn : at_ + n ≤ len) :
    SlAt k w (some ⟨b, off + at_, none⟩) n ((xs.drop at_).take n) := by
  obtain ⟨h1, h2⟩ := h
  refine ⟨by simp; omega, ?_⟩
  by_cases h0 : n = 0
  · exact .inl h0
  · obtain ⟨b', off', he, hc⟩ := h2.resolve_left (by omega)
    cases he
    refine .inr ⟨b, off + at_, rfl, fun j hj => ?_⟩
    rw [show off + at_ + j = off + (at_ + j) by omega, hc _ (by omega)]
    simp [hj]
theorem Try.size5 : (Try.prog.info? 5).map (·.size) = some 1 := by kernel_rfl
/-- The bytes of a matrix out of so many bytes a pixel, up to a pixel. -/
def fromF (per : Nat) (b : List Int) (k q : Nat) : Int := if q < 4 * k then (if q % 4 < per then b.getD (per * (q / 4) + q % 4) 0 else 255) else 0
def fromT (per : Nat) (b : List Int) (q : Nat) : Int := if q % 4 < per then b.getD (per * (q / 4) + q % 4) 0 else 255
theorem fromT_eq (per : Nat) (b : List Int) (k : Nat) : tab (4 * k) (fromF per b k) = tab (4 * k) (fromT per b) := tab_ext fun j hj => by unfold fromF fromT; rw [if_pos hj]
theorem fromF_step3 (xs : List Int) (m k : Nat) (hk : k < m) (hx : xs.length = 3 * m) :
    spl ((tab (4 * m) (fromF 3 xs k)).set (4 * k + 3) 255) (4 * k) (((xs.drop (3 * k)).take 3).take 3) = tab (4 * m) (fromF 3 xs (k + 1)) := by
  have hl : (((xs.drop (3 * k)).take 3).take 3).length = 3 := by simp; omega
  apply list_ext
  · rw [spl_length (by rw [hl, List.length_set, tab_length]; omega), List.length_set, tab_length, tab_length]
  · intro j hj
    rw [spl_length (by rw [hl, List.length_set, tab_length]; omega), List.length_set, tab_length] at hj
    rw [spl_get (by rw [hl, List.length_set, tab_length]; omega), hl, getD_set (by rw [tab_length]; omega), tab_get hj, tab_get hj]
    unfold fromF
    by_cases h1 : 4 * k ≤ j ∧ j < 4 * k + 3
    · rw [if_pos h1, getD_take (by omega), getD_take (by omega), getD_drop, if_pos (by omega), if_pos (by omega)]
      congr 1; omega
    · rw [if_neg h1]
      by_cases h2 : j = 4 * k + 3
      · rw [if_pos h2, if_pos (by omega), if_neg (by omega)]
      · rw [if_neg h2]
        by_cases h3 : j < 4 * k
        · rw [if_pos h3, if_pos (show j < 4 * (k + 1) by omega)]
        · rw [if_neg h3, if_neg (by omega)]
theorem fromF_step4 (xs : List Int) (m k : Nat) (hk : k < m) (hx : xs.length = 4 * m) :
    spl ((tab (4 * m) (fromF 4 xs k)).set (4 * k + 3) 255) (4 * k) (((xs.drop (4 * k)).take 4).take 4) = tab (4 * m) (fromF 4 xs (k + 1)) := by
  have hl : (((xs.drop (4 * k)).take 4).take 4).length = 4 := by simp; omega
  apply list_ext
  · rw [spl_length (by rw [hl, List.length_set, tab_length]; omega), List.length_set, tab_length, tab_length]
  · intro j hj
    rw [spl_length (by rw [hl, List.length_set, tab_length]; omega), List.length_set, tab_length] at hj
    rw [spl_get (by rw [hl, List.length_set, tab_length]; omega), hl, getD_set (by rw [tab_length]; omega), tab_get hj, tab_get hj]
    unfold fromF
    by_cases h1 : 4 * k ≤ j ∧ j < 4 * k + 4
    · rw [if_pos h1, getD_take (by omega), getD_take (by omega), getD_drop, if_pos (by omega), if_pos (by omega)]
      congr 1; omega
    · rw [if_neg h1, if_neg (by omega)]
      by_cases h3 : j < 4 * k
      · rw [if_pos h3, if_pos (show j < 4 * (k + 1) by omega)]
      · rw [if_neg h3, if_neg (by omega)]
set_option maxRecDepth 100000 in
set_option maxHeartbeats 1000000 in
theorem from3_yes (w h : Int) (b off len cap : Nat) (xs : List Int) (wd : World) (hs : sizeB w h = true) (hx : SlAt .u8 wd (some ⟨b, off, none⟩) len xs) (hc : len ≤ cap) (hcm : cap ≤ 9223372036854775807) (hl : (len : Int) = 3 * w * h) (hbw : b < wd.heap.size) :
    Calls Try.prog 44 #[.int .i64 w, .int .i64 h, .int .i64 3, .slice (some ⟨b, off, none⟩) len cap] wd fun e w' =>
      ∃ g n : Nat, (n : Int) = 4 * w * h ∧ e = .returned (.tuple #[mat w h (some ⟨g, 0, none⟩) n n, .int .i64 0]) ∧ wd.heap.size ≤ g ∧ Own .u8 5 w' (.slice (some ⟨g, 0, none⟩) n n) (tab n (fromT 3 xs)) ∧ Kept (fun _ => False) wd w' := by
  obtain ⟨a1, a2, a3, a4, a5, a6, -⟩ := sizeB_t hs
  have hp : 3 * w * h = 3 * (w * h) := Int.mul_assoc ..
  have hl' := hl.symm
  have HL := Lib.hid hl
  obtain ⟨m, hm⟩ : ∃ m : Nat, (m : Int) = w * h := ⟨(w * h).toNat, by omega⟩
  have hlm : len = 3 * m := by omega
  have HM := Lib.hid hm
  have hm' := hm.symm
  clear hl hp hm
  subst hlm
  go_enter Try.func44, Try.ntmps44
  go_wp2_with fail
  refine (new_yes w h _ hs).mono ?_
  rintro e w1 ⟨g, n, hn, rfl, hg, ho, hk⟩
  have hc1 := hk.blk (blk_new wd _) id
  obtain ⟨⟨c0, f0⟩, ⟨c1, f1⟩, c2, f2⟩ := blk3 hc1
  have HC := Lib.hid hc1
  have HN := Lib.hid hn
  have HO := Lib.hid ho
  clear hn ho hc1
  unfold mat
  go_wp2_with fail
  obtain ⟨P0, hP0⟩ : ∃ P0, P0 = w1.heap.size := ⟨_, rfl⟩
  rw [← hP0]
  have hb0 := blk_at w1 (.cells #[.int .i64 w, .int .i64 h, .slice (some ⟨g, 0, none⟩) n n] 35) hP0
  have hP0l : wd.heap.size < P0 := by have := hk.size; simp at this; omega
  have hg' : wd.heap.size < g := by have h := hg; simp at h; omega
  have hkk : Kept (fun _ => False) wd w1 := ((Kept.refl _ _).alloc _).then hk
  have hn4 : n = 4 * m := by have := HN.out; have := HM.out; have h4 : 4 * w * h = 4 * (w * h) := Int.mul_assoc ..; omega
  have hgP : g ≠ P0 := by have := HO.out.at.2.2.1; omega
  clear hg hk c0 f0 c1 f1 c2 f2
  subst hn4
  have HO1 : Own IntKind.u8 5 (w1.alloc (.cells #[.int .i64 w, .int .i64 h, .slice (some ⟨g, 0, none⟩) (4 * m) (4 * m)] 35)) (.slice (some ⟨g, 0, none⟩) (4 * m) (4 * m)) (List.replicate (4 * m) 0) := HO.out.kept ((Kept.refl (fun _ => False) _).alloc _) (fun _ _ => id)
  have HP0 := Lib.hid hP0; clear hP0
  go_loopw [47] (fun i wr => ∃ k : Nat, k ≤ m ∧ i = .int .i64 k ∧ wr.heap[P0]? = some (.cells #[.int .i64 w, .int .i64 h, .slice (some ⟨g, 0, none⟩) (4 * m) (4 * m)] 35) ∧ Own .u8 5 wr (.slice (some ⟨g, 0, none⟩) (4 * m) (4 * m)) (tab (4 * m) (fromF 3 xs k)) ∧ Kept (fun _ => False) wd wr ∧ wr.heap[wd.heap.size]? = some (.cells #[.int .i64 0, .int .i64 0, .slice none 0 0] 35))
     (fun i _ => m - (intOf i).toNat)
  case atStart => exact ⟨0, Nat.zero_le _, rfl, hb0, by rw [tab_zero] at HO1; exact (tab_ext (n := 4 * m) (f := fun _ => 0) (g := fromF 3 xs 0) (fun j _ => by simp [fromF])) ▸ HO1, hkk.alloc _, blk_alloc HC.out _⟩
  case round =>
    obtain ⟨k, hk, rfl, hbr, hor, hkr, hrb⟩ := hrel
    have HRB := Lib.hid hrb
    clear hrb
    obtain ⟨⟨c0, f0⟩, ⟨c1, f1⟩, c2, f2⟩ := blk3 hbr
    have HB := Lib.hid hbr
    have HR := Lib.hid hor
    clear hbr
    by_cases hkm : k < m
    · obtain ⟨-, -, hgw, hcells, hfr⟩ := hor.at
      have d3 := hcells (4 * k + 3) (by omega)
      have e3 := hfr (4 * k + 3)
      have HR2 := Lib.hid (hor.set (show 4 * k + 3 < 4 * m by omega) 255)
      have hsl3 := (hx.sub (at_ := 3 * k) (n := 3) (by omega)).kept (hkr.setCell (p := ⟨g, 4 * k + 3, none⟩) (.inr (by show wd.heap.size ≤ g; omega)) (.int .u8 255)) (fun _ _ _ _ => id)
      have hkr2 : Kept (fun _ => False) wd (wr.setCell ⟨g, 4 * k + 3, none⟩ (.int .u8 255)) := hkr.setCell (.inr (by show wd.heap.size ≤ g; omega)) _
      have HB2 := Lib.hid (blk_set_other (a := ⟨g, 4 * k + 3, none⟩) HB.out (show P0 ≠ g by omega) (.int .u8 255))
      have HRB2 := Lib.hid (blk_set_other (a := ⟨g, 4 * k + 3, none⟩) HRB.out (show wd.heap.size ≠ g by omega) (.int .u8 255))
      have HS := Lib.hid (fromF_step3 xs m k hkm hx.1)
      clear hcells hor hfr
      have hne : ¬ P0 = g := fun h => hgP h.symm
      have hbg : ¬ b = g := by omega
      have hcap : ¬ (4 * m = 4 * k) := by omega
      have hcap2 : ¬ (cap = 3 * k) := by omega
      have hmin := Lib.hid (show 3 = Nat.min 3 (4 * m - 4 * k) from (Nat.min_eq_left (show 3 ≤ 4 * m - 4 * k by omega)).symm)
      go_wp2
      have v1 : IntKind.i64.wrap (4 * (k : Int)) = 4 * (k : Int) := IntWalk.i64_in _ (by omega)
      have v2 : IntKind.i64.wrap (3 * (k : Int)) = 3 * (k : Int) := IntWalk.i64_in _ (by omega)
      have v3 : IntKind.i64.wrap (3 * (k : Int) + 3) = 3 * (k : Int) + 3 := IntWalk.i64_in _ (by omega)
      have n1 : 0 ≤ 4 * (k : Int) := by omega
      have n2 : 0 ≤ 3 * (k : Int) := by omega
      have n3 : 0 ≤ 3 * (k : Int) + 3 := by omega
      have t1 : (4 * (k : Int)).toNat = 4 * k := by omega
      have t2 : (3 * (k : Int)).toNat = 3 * k := by omega
      have t3 : (3 * (k : Int) + 3).toNat = 3 * k + 3 := by omega
      have l1 : 4 * (k : Int) ≤ 4 * (m : Int) := by omega
      have l2 : 3 * (k : Int) + 3 ≤ (cap : Int) := by omega
      have l3 : 3 * (k : Int) ≤ 3 * (k : Int) + 3 := by omega
      go_region_law (refine step_cp rfl (.tmp 60) (.tmp 70) 33 33 rfl 5 .u8 Try.underlying33 Try.size5 g (4 * m) (4 * m) (4 * k) _ _ _ rfl (by exact HR2.out) (some ⟨b, off + 3 * k, none⟩) 3 _ _ rfl (by exact hsl3) 3 hmin.out (by omega) ?_; intro w4 ho4 hk4)
      clear v1 v2 v3 t1 t2 t3
      go_wp2
      go_roundw
      case rel =>
        rw [HS.out] at ho4
        exact ⟨k + 1, by omega, by go_num, hk4.blk HB2.out hne, ho4, hkr2.drew.trans (hk4.mono (fun i _ h => Or.inr (by have : i = g := h; omega))), hk4.blk HRB2.out (by show ¬ wd.heap.size = g; omega)⟩
      case measure => simp [intOf]; omega
    · obtain rfl : k = m := by omega
      obtain ⟨⟨r0, s0⟩, ⟨r1, s1⟩, r2, s2⟩ := blk3 HRB.out
      go_wp2
      refine bodyPost_ret (v := .tuple #[mat w h (some ⟨g, 0, none⟩) (4 * k) (4 * k), .int .i64 0]) (by simp [results, Try.results44, go_sem, mat, r0, r1, r2]) rfl ⟨g, 4 * k, HN.out, rfl, by omega, ?_, ?_⟩
      · rw [← fromT_eq]
        refine HR.out.kept (S := fun i => i = wd.heap.size) ?_ (fun b h => by cases h; show ¬ g = wd.heap.size; omega)
        repeat (refine Kept.setCell ?_ (Or.inl (by rfl)) _)
        exact Kept.refl _ _
      · repeat (refine Kept.setCell ?_ (Or.inr (by exact Nat.le_refl _)) _)
        exact hkr
set_option maxRecDepth 100000 in
set_option maxHeartbeats 1000000 in
theorem from4_yes (w h : Int) (b off len cap : Nat) (xs : List Int) (wd : World) (hs : sizeB w h = true) (hx : SlAt .u8 wd (some ⟨b, off, none⟩) len xs) (hc : len ≤ cap) (hcm : cap ≤ 9223372036854775807) (hl : (len : Int) = 4 * w * h) (hbw : b < wd.heap.size) :
    Calls Try.prog 44 #[.int .i64 w, .int .i64 h, .int .i64 4, .slice (some ⟨b, off, none⟩) len cap] wd fun e w' =>
      ∃ g n : Nat, (n : Int) = 4 * w * h ∧ e = .returned (.tuple #[mat w h (some ⟨g, 0, none⟩) n n, .int .i64 0]) ∧ wd.heap.size ≤ g ∧ Own .u8 5 w' (.slice (some ⟨g, 0, none⟩) n n) (tab n (fromT 4 xs)) ∧ Kept (fun _ => False) wd w' := by
  obtain ⟨a1, a2, a3, a4, a5, a6, -⟩ := sizeB_t hs
  have hp : 4 * w * h = 4 * (w * h) := Int.mul_assoc ..
  have hl' := hl.symm
  have HL := Lib.hid hl
  obtain ⟨m, hm⟩ : ∃ m : Nat, (m : Int) = w * h := ⟨(w * h).toNat, by omega⟩
  have hlm : len = 4 * m := by omega
  have HM := Lib.hid hm
  have hm' := hm.symm
  clear hl hp hm
  subst hlm
  go_enter Try.func44, Try.ntmps44
  go_wp2_with fail
  refine (new_yes w h _ hs).mono ?_
  rintro e w1 ⟨g, n, hn, rfl, hg, ho, hk⟩
  have hc1 := hk.blk (blk_new wd _) id
  obtain ⟨⟨c0, f0⟩, ⟨c1, f1⟩, c2, f2⟩ := blk3 hc1
  have HC := Lib.hid hc1
  have HN := Lib.hid hn
  have HO := Lib.hid ho
  clear hn ho hc1
  unfold mat
  go_wp2_with fail
  obtain ⟨P0, hP0⟩ : ∃ P0, P0 = w1.heap.size := ⟨_, rfl⟩
  rw [← hP0]
  have hb0 := blk_at w1 (.cells #[.int .i64 w, .int .i64 h, .slice (some ⟨g, 0, none⟩) n n] 35) hP0
  have hP0l : wd.heap.size < P0 := by have := hk.size; simp at this; omega
  have hg' : wd.heap.size < g := by have h := hg; simp at h; omega
  have hkk : Kept (fun _ => False) wd w1 := ((Kept.refl _ _).alloc _).then hk
  have hn4 : n = 4 * m := by have := HN.out; have := HM.out; have h4 : 4 * w * h = 4 * (w * h) := Int.mul_assoc ..; omega
  have hgP : g ≠ P0 := by have := HO.out.at.2.2.1; omega
  clear hg hk c0 f0 c1 f1 c2 f2
  subst hn4
  have HO1 : Own IntKind.u8 5 (w1.alloc (.cells #[.int .i64 w, .int .i64 h, .slice (some ⟨g, 0, none⟩) (4 * m) (4 * m)] 35)) (.slice (some ⟨g, 0, none⟩) (4 * m) (4 * m)) (List.replicate (4 * m) 0) := HO.out.kept ((Kept.refl (fun _ => False) _).alloc _) (fun _ _ => id)
  have HP0 := Lib.hid hP0; clear hP0
  go_loopw [47] (fun i wr => ∃ k : Nat, k ≤ m ∧ i = .int .i64 k ∧ wr.heap[P0]? = some (.cells #[.int .i64 w, .int .i64 h, .slice (some ⟨g, 0, none⟩) (4 * m) (4 * m)] 35) ∧ Own .u8 5 wr (.slice (some ⟨g, 0, none⟩) (4 * m) (4 * m)) (tab (4 * m) (fromF 4 xs k)) ∧ Kept (fun _ => False) wd wr ∧ wr.heap[wd.heap.size]? = some (.cells #[.int .i64 0, .int .i64 0, .slice none 0 0] 35))
     (fun i _ => m - (intOf i).toNat)
  case atStart => exact ⟨0, Nat.zero_le _, rfl, hb0, by rw [tab_zero] at HO1; exact (tab_ext (n := 4 * m) (f := fun _ => 0) (g := fromF 4 xs 0) (fun j _ => by simp [fromF])) ▸ HO1, hkk.alloc _, blk_alloc HC.out _⟩
  case round =>
    obtain ⟨k, hk, rfl, hbr, hor, hkr, hrb⟩ := hrel
    have HRB := Lib.hid hrb
    clear hrb
    obtain ⟨⟨c0, f0⟩, ⟨c1, f1⟩, c2, f2⟩ := blk3 hbr
    have HB := Lib.hid hbr
    have HR := Lib.hid hor
    clear hbr
    by_cases hkm : k < m
    · obtain ⟨-, -, hgw, hcells, hfr⟩ := hor.at
      have d3 := hcells (4 * k + 3) (by omega)
      have e3 := hfr (4 * k + 3)
      have HR2 := Lib.hid (hor.set (show 4 * k + 3 < 4 * m by omega) 255)
      have hsl3 := (hx.sub (at_ := 4 * k) (n := 4) (by omega)).kept (hkr.setCell (p := ⟨g, 4 * k + 3, none⟩) (.inr (by show wd.heap.size ≤ g; omega)) (.int .u8 255)) (fun _ _ _ _ => id)
      have hkr2 : Kept (fun _ => False) wd (wr.setCell ⟨g, 4 * k + 3, none⟩ (.int .u8 255)) := hkr.setCell (.inr (by show wd.heap.size ≤ g; omega)) _
      have HB2 := Lib.hid (blk_set_other (a := ⟨g, 4 * k + 3, none⟩) HB.out (show P0 ≠ g by omega) (.int .u8 255))
      have HRB2 := Lib.hid (blk_set_other (a := ⟨g, 4 * k + 3, none⟩) HRB.out (show wd.heap.size ≠ g by omega) (.int .u8 255))
      have HS := Lib.hid (fromF_step4 xs m k hkm hx.1)
      clear hcells hor hfr
      have hne : ¬ P0 = g := fun h => hgP h.symm
      have hbg : ¬ b = g := by omega
      have hcap : ¬ (4 * m = 4 * k) := by omega
      have hcap2 : ¬ (cap = 4 * k) := by omega
      have hmin := Lib.hid (show 4 = Nat.min 4 (4 * m - 4 * k) from (Nat.min_eq_left (show 4 ≤ 4 * m - 4 * k by omega)).symm)
      go_wp2
      have v1 : IntKind.i64.wrap (4 * (k : Int)) = 4 * (k : Int) := IntWalk.i64_in _ (by omega)
      have v2 : IntKind.i64.wrap (4 * (k : Int)) = 4 * (k : Int) := IntWalk.i64_in _ (by omega)
      have v3 : IntKind.i64.wrap (4 * (k : Int) + 4) = 4 * (k : Int) + 4 := IntWalk.i64_in _ (by omega)
      have n1 : 0 ≤ 4 * (k : Int) := by omega
      have n2 : 0 ≤ 4 * (k : Int) := by omega
      have n3 : 0 ≤ 4 * (k : Int) + 4 := by omega
      have t1 : (4 * (k : Int)).toNat = 4 * k := by omega
      have t2 : (4 * (k : Int)).toNat = 4 * k := by omega
      have t3 : (4 * (k : Int) + 4).toNat = 4 * k + 4 := by omega
      have l1 : 4 * (k : Int) ≤ 4 * (m : Int) := by omega
      have l2 : 4 * (k : Int) + 4 ≤ (cap : Int) := by omega
      have l3 : 4 * (k : Int) ≤ 4 * (k : Int) + 4 := by omega
      go_region_law (refine step_cp rfl (.tmp 60) (.tmp 70) 33 33 rfl 5 .u8 Try.underlying33 Try.size5 g (4 * m) (4 * m) (4 * k) _ _ _ rfl (by exact HR2.out) (some ⟨b, off + 4 * k, none⟩) 4 _ _ rfl (by exact hsl3) 4 hmin.out (by omega) ?_; intro w4 ho4 hk4)
      clear v1 v2 v3 t1 t2 t3
      go_wp2
      go_roundw
      case rel =>
        rw [HS.out] at ho4
        exact ⟨k + 1, by omega, by go_num, hk4.blk HB2.out hne, ho4, hkr2.drew.trans (hk4.mono (fun i _ h => Or.inr (by have : i = g := h; omega))), hk4.blk HRB2.out (by show ¬ wd.heap.size = g; omega)⟩
      case measure => simp [intOf]; omega
    · obtain rfl : k = m := by omega
      obtain ⟨⟨r0, s0⟩, ⟨r1, s1⟩, r2, s2⟩ := blk3 HRB.out
      go_wp2
      refine bodyPost_ret (v := .tuple #[mat w h (some ⟨g, 0, none⟩) (4 * k) (4 * k), .int .i64 0]) (by simp [results, Try.results44, go_sem, mat, r0, r1, r2]) rfl ⟨g, 4 * k, HN.out, rfl, by omega, ?_, ?_⟩
      · rw [← fromT_eq]
        refine HR.out.kept (S := fun i => i = wd.heap.size) ?_ (fun b h => by cases h; show ¬ g = wd.heap.size; omega)
        repeat (refine Kept.setCell ?_ (Or.inl (by rfl)) _)
        exact Kept.refl _ _
      · repeat (refine Kept.setCell ?_ (Or.inr (by exact Nat.le_refl _)) _)
        exact hkr
set_option maxRecDepth 100000 in
set_option maxHeartbeats 1000000 in
theorem from_no (w h per : Int) (a0 : Option Addr) (len cap : Nat) (wd : World) (hw : -9223372036854775808 ≤ w ∧ w ≤ 9223372036854775807) (hh : -9223372036854775808 ≤ h ∧ h ≤ 9223372036854775807) (hs : sizeB w h = false) :
    Calls Try.prog 44 #[.int .i64 w, .int .i64 h, .int .i64 per, .slice a0 len cap] wd fun e w' => e = .returned (.tuple #[mat0, .int .i64 1]) ∧ Kept (fun _ => False) wd w' := by
  go_enter Try.func44, Try.ntmps44
  go_wp2_with fail
  refine (new_no w h _ hw hh hs).mono ?_
  rintro e w1 ⟨rfl, hk⟩
  have hc1 := hk.blk (blk_new wd _) id
  obtain ⟨⟨c0, f0⟩, ⟨c1, f1⟩, c2, f2⟩ := blk3 hc1
  have hkk : Kept (fun _ => False) wd w1 := ((Kept.refl _ _).alloc _).then hk
  have hz := hk.size
  clear hc1 hk
  simp only [World.size_alloc] at hz
  have hz' : wd.heap.size < w1.heap.size := hz
  unfold mat0 mat
  go_wp2
  refine bodyPost_ret (v := .tuple #[mat0, .int .i64 1]) (by simp [results, Try.results44, go_sem, mat0, mat, hz', c0, c1, c2]) rfl ⟨rfl, ?_⟩
  repeat (first | (refine Kept.alloc ?_ _) | (refine Kept.setCell ?_ (Or.inr (by exact Nat.le_refl _)) _))
  exact hkk
set_option maxRecDepth 100000 in
set_option maxHeartbeats 1000000 in
theorem from_bad (w h per : Int) (a0 : Option Addr) (len cap : Nat) (wd : World) (hp : per = 3 ∨ per = 4) (hs : sizeB w h = true) (hl : len ≤ 9223372036854775807) (hne : (len : Int) ≠ per * w * h) :
    Calls Try.prog 44 #[.int .i64 w, .int .i64 h, .int .i64 per, .slice a0 len cap] wd fun e w' => e = .returned (.tuple #[mat0, .int .i64 (if (len : Int) < per * w * h then 2 else 5)]) ∧ Kept (fun _ => False) wd w' := by
  obtain ⟨a1, a2, a3, a4, a5, a6, -⟩ := sizeB_t hs
  have e3 : 3 * w * h = 3 * (w * h) := Int.mul_assoc ..
  have e4 : 4 * w * h = 4 * (w * h) := Int.mul_assoc ..
  have hb : 0 ≤ per * w * h ∧ per * w * h ≤ 268435456 ∧ 0 ≤ per * w ∧ per * w ≤ 65536 := by rcases hp with rfl | rfl <;> omega
  clear e3 e4
  by_cases hlt : (len : Int) < per * w * h
  · rw [if_pos hlt]
    go_enter Try.func44, Try.ntmps44
    go_wp2_with fail
    refine (new_yes w h _ hs).mono ?_
    rintro e w1 ⟨g, n, -, rfl, -, -, hk⟩
    have hc1 := hk.blk (blk_new wd _) id
    obtain ⟨⟨c0, f0⟩, ⟨c1, f1⟩, c2, f2⟩ := blk3 hc1
    have hkk : Kept (fun _ => False) wd w1 := ((Kept.refl _ _).alloc _).then hk
    have hz := hk.size
    clear hc1 hk
    simp only [World.size_alloc] at hz
    have hz' : wd.heap.size < w1.heap.size := hz
    unfold mat
    go_wp2
    refine bodyPost_ret (v := .tuple #[mat0, .int .i64 2]) (by simp [results, Try.results44, go_sem, mat0, mat, hz', c0, c1, c2]) rfl ⟨rfl, ?_⟩
    repeat (first | (refine Kept.alloc ?_ _) | (refine Kept.setCell ?_ (Or.inr (by exact Nat.le_refl _)) _))
    exact hkk
  · rw [if_neg hlt]
    have hgt : per * w * h < (len : Int) := by omega
    clear hne
    go_enter Try.func44, Try.ntmps44
    go_wp2_with fail
    refine (new_yes w h _ hs).mono ?_
    rintro e w1 ⟨g, n, -, rfl, -, -, hk⟩
    have hc1 := hk.blk (blk_new wd _) id
    obtain ⟨⟨c0, f0⟩, ⟨c1, f1⟩, c2, f2⟩ := blk3 hc1
    have hkk : Kept (fun _ => False) wd w1 := ((Kept.refl _ _).alloc _).then hk
    have hz := hk.size
    clear hc1 hk
    simp only [World.size_alloc] at hz
    have hz' : wd.heap.size < w1.heap.size := hz
    unfold mat
    go_wp2
    refine bodyPost_ret (v := .tuple #[mat0, .int .i64 5]) (by simp [results, Try.results44, go_sem, mat0, mat, hz', c0, c1, c2]) rfl ⟨rfl, ?_⟩
    repeat (first | (refine Kept.alloc ?_ _) | (refine Kept.setCell ?_ (Or.inr (by exact Nat.le_refl _)) _))
    exact hkk
set_option maxRecDepth 100000 in
set_option maxHeartbeats 1000000 in
theorem from_zero (per : Int) (a0 : Option Addr) (cap : Nat) (wd : World) (hp : per = 3 ∨ per = 4) :
    Calls Try.prog 44 #[.int .i64 0, .int .i64 0, .int .i64 per, .slice a0 0 cap] wd fun e w' =>
      ∃ g : Nat, e = .returned (.tuple #[mat 0 0 (some ⟨g, 0, none⟩) 0 0, .int .i64 0]) ∧ wd.heap.size ≤ g ∧ Own .u8 5 w' (.slice (some ⟨g, 0, none⟩) 0 0) [] ∧ Kept (fun _ => False) wd w' := by
  go_enter Try.func44, Try.ntmps44
  go_wp2_with fail
  refine (new_yes 0 0 _ rfl).mono ?_
  rintro e w1 ⟨g, n, hn, rfl, hg, ho, hk⟩
  obtain rfl : n = 0 := by omega
  have hc1 := hk.blk (blk_new wd _) id
  obtain ⟨⟨c0, f0⟩, ⟨c1, f1⟩, c2, f2⟩ := blk3 hc1
  have hkk : Kept (fun _ => False) wd w1 := ((Kept.refl _ _).alloc _).then hk
  have hz := hk.size
  have hg' : wd.heap.size < g := by simp at hg; omega
  have HO := Lib.hid ho
  clear hc1 hk hg ho hn
  simp only [World.size_alloc] at hz
  have hz' : wd.heap.size < w1.heap.size := hz
  unfold mat
  go_wp2
  refine wp_loop_rounds 1 ?_
  rw [rounds_succ]
  go_wp2
  refine bodyPost_ret (v := .tuple #[mat 0 0 (some ⟨g, 0, none⟩) 0 0, .int .i64 0]) (by simp [results, Try.results44, go_sem, mat, hz', c0, c1, c2]) rfl ⟨g, rfl, by omega, ?_, ?_⟩
  · refine HO.out.kept (S := fun i => i = wd.heap.size) ?_ (fun b h => by cases h; show ¬ g = wd.heap.size; omega)
    repeat (first | (refine Kept.alloc ?_ _) | (refine Kept.setCell ?_ (Or.inl (by rfl)) _))
    exact Kept.refl _ _
  · repeat (first | (refine Kept.alloc ?_ _) | (refine Kept.setCell ?_ (Or.inr (by exact Nat.le_refl _)) _))
    exact hkk
end Go.Proofs.Ytgejefhnoloebaa
