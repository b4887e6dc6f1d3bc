/- Matrices: new ones, the same ones. -/
import Derived.Test.YtdjgmhbfohbenaaMat
import Derived.StillTailTactics
import Derived.Deep.RegionHeld3
namespace Go.Proofs.Ytdjgmhbfohbenaa
open Go.RowKit 
set_option linter.unusedVariables false
set_option linter.unusedSimpArgs false
theorem tab_set {n : Nat} {f : Nat → Int} {i : Nat} (h : i < n) (v : Int) : (tab n f).set i v = tab n (fun j => if j = i then v else f j) := by
  refine list_ext (by simp [tab_length]) (fun j hj => ?_)
  simp only [List.length_set, tab_length] at hj
  rw [getD_set (by rw [tab_length]; exact h), tab_get (f := f) hj, tab_get (f := fun j => if j = i then v else f j) hj]
set_option maxRecDepth 100000 in
set_option maxHeartbeats 4000000 in
theorem rnew_no (w h : Int) (wd : World) (hw : I64 w) (hh : I64 h) (hs : sizeB w h = false) :
    Calls Try.prog 35 #[.int .i64 w, .int .i64 h] wd fun e w' => e = .returned (.tuple #[mat0, .int .i64 1]) ∧ Kept (fun _ => False) wd w' := by
  have HC := Lib.hid (fun wd => show Calls Try.prog 51 #[.int .i64 w, .int .i64 h] wd fun e w' => e = .returned (.bool false) ∧ wd = w' from by have h := refSize_any w h wd hw hh; rw [hs] at h; exact h)
  clear hs hw hh
  go_enter Try.func35, Try.ntmps35
  go_wp2_with (go_at_call 51; refine (HC.out _).mono ?_; rintro e w' ⟨rfl, rfl⟩)
  refine bodyPost_ret (v := .tuple #[mat0, .int .i64 1]) (by simp [results, Try.results35, go_sem, mat0, mat]) rfl ⟨rfl, ?_⟩
  repeat (first | apply Kept.alloc | apply Kept.drew)
  exact Kept.refl _ _

set_option maxRecDepth 100000 in
set_option maxHeartbeats 4000000 in
theorem rnew_yes (w h : Int) (wd : World) (hs : sizeB w h = true) :
    Calls Try.prog 35 #[.int .i64 w, .int .i64 h] wd fun e w' => ∃ g n : Nat, (n : Int) = 4 * w * h ∧ e = .returned (.tuple #[mat w h (some ⟨g, 0, none⟩) n n, .int .i64 0]) ∧ wd.heap.size ≤ g ∧ Own .u8 5 w' (.slice (some ⟨g, 0, none⟩) n n) (List.replicate n 0) ∧ Kept (fun _ => False) wd w' := by
  obtain ⟨a1, a2, a3, a4, a5, a6, -⟩ := sizeB_t hs
  obtain ⟨i0, hi, hz0, hz1, hz2⟩ := info_parts Try.info5
  have hp : 4 * w * h = 4 * (w * h) := Int.mul_assoc ..
  obtain ⟨n, hn⟩ : ∃ n : Nat, (n : Int) = 4 * w * h := ⟨(4 * w * h).toNat, by omega⟩
  have hnb : n ≤ 268435456 := by omega
  have HN := Lib.hid hn
  have hn' : 4 * w * h = (n : Int) := hn.symm
  clear hn hp
  go_enter Try.func35, Try.ntmps35
  go_wp2_with (first
    | (go_at_call 51; refine (refSize_any _ _ _ (by omega) (by omega)).mono ?_; rw [hs]; rintro e w' ⟨rfl, rfl⟩)
    | (refine wpList_makeInts rfl (.tmp 16) (.tmp 16) 29 rfl 5 .u8 i0 1 Try.underlying29 hi hz0 hz1 hz2 .i64 .i64 _ _ n rfl rfl rfl rfl (by omega) (by simp [maxLen]; omega) ?_; intro w2 ho2 hk2 hs2; have hb2 := hk2.blk (blk_new wd _) id; obtain ⟨⟨c0, f0⟩, ⟨c1, f1⟩, c2, f2⟩ := blk3 hb2; have HO := Lib.hid ho2; clear ho2 hb2))
  have ho := HO.out
  rw [World.size_alloc] at ho hs2
  refine bodyPost_ret (v := .tuple #[mat w h (some ⟨wd.heap.size + 1, 0, none⟩) n n, .int .i64 0]) (by simp [results, Try.results35, go_sem, mat, c0, c1, c2]) rfl ⟨wd.heap.size + 1, n, HN.out, rfl, by omega, ?_, ?_⟩
  · refine ho.kept (S := fun k => k = wd.heap.size) ?_ (fun b h => by cases h; exact Nat.succ_ne_self _)
    repeat (refine Kept.setCell ?_ (Or.inl (by rfl)) _)
    exact Kept.refl _ _
  · repeat (refine Kept.setCell ?_ (Or.inr (by exact Nat.le_refl _)) _)
    exact (Kept.trans ((Kept.refl _ wd).alloc _) (hk2.mono (fun _ _ h => h.elim)))

def newS (w h : Int) : Mx × Int := if sizeB w h = true then (⟨w, h, List.replicate (4 * w * h).toNat 0⟩, 0) else (⟨0, 0, []⟩, 1)
theorem new_any (w h : Int) (wd : World) (hw : I64 w) (hh : I64 h) :
    Calls Try.prog 33 #[.int .i64 w, .int .i64 h] wd fun e w' => ∃ v, e = .returned (.tuple #[v, .int .i64 (newS w h).2]) ∧ IsMx wd.heap.size w' v (newS w h).1 ∧ Kept (fun _ => False) wd w' := by
  unfold newS
  by_cases hs : sizeB w h = true
  · rw [if_pos hs]
    refine (new_yes w h wd hs).mono fun e w' ⟨g, n, hn, he, hg, ho, hk⟩ => ⟨_, he, ?_, hk⟩
    rw [show (4 * w * h).toNat = n by omega]
    exact IsMx.of_own ho hg
  · rw [if_neg hs]
    exact (new_no w h wd hw hh (by simpa using hs)).mono fun e w' ⟨he, hk⟩ => ⟨_, he, isMx0 _ _, hk⟩
theorem rnew_any (w h : Int) (wd : World) (hw : I64 w) (hh : I64 h) :
    Calls Try.prog 35 #[.int .i64 w, .int .i64 h] wd fun e w' => ∃ v, e = .returned (.tuple #[v, .int .i64 (newS w h).2]) ∧ IsMx wd.heap.size w' v (newS w h).1 ∧ Kept (fun _ => False) wd w' := by
  unfold newS
  by_cases hs : sizeB w h = true
  · rw [if_pos hs]
    refine (rnew_yes w h wd hs).mono fun e w' ⟨g, n, hn, he, hg, ho, hk⟩ => ⟨_, he, ?_, hk⟩
    rw [show (4 * w * h).toNat = n by omega]
    exact IsMx.of_own ho hg
  · rw [if_neg hs]
    exact (rnew_no w h wd hw hh (by simpa using hs)).mono fun e w' ⟨he, hk⟩ => ⟨_, he, isMx0 _ _, hk⟩

theorem newS_bytes (w h : Int) : IsBytes (newS w h).1.p := by
  unfold newS
  split
  · intro n hn; simp at hn; omega
  · intro n hn; cases hn
theorem getD_byte {xs : List Int} (h : IsBytes xs) (j : Nat) : 0 ≤ xs.getD j 0 ∧ xs.getD j 0 < 256 := by
  by_cases hj : j < xs.length
  · rw [List.getD_eq_getElem?_getD, List.getElem?_eq_getElem hj]; exact h _ (List.getElem_mem _)
  · rw [List.getD_eq_getElem?_getD, List.getElem?_eq_none (by omega)]; simp
theorem sameM_self (m : Mx) : sameM m m = true := decide_eq_true ⟨rfl, rfl, rfl⟩
theorem ub_of {k : IntKind} {w : World} {a : Option Addr} {n : Nat} {xs : List Int} (h : SlAt k w a n xs) : ∀ b off, 0 < n → a = some ⟨b, off, none⟩ → b < w.heap.size := by
  intro b off h0 he
  obtain ⟨b', o', he', hc⟩ := h.2.resolve_left (by omega)
  rw [he] at he'; cases he'
  exact lt_of_cell (hc 0 h0)

theorem spl_tab {n o : Nat} {f : Nat → Int} {ys : List Int} (h : o + ys.length ≤ n) : spl (tab n f) o ys = tab n (fun j => if o ≤ j ∧ j < o + ys.length then ys.getD (j - o) 0 else f j) := by
  refine list_ext (by rw [spl_length (by rw [tab_length]; exact h), tab_length, tab_length]) (fun j hj => ?_)
  rw [spl_length (by rw [tab_length]; exact h), tab_length] at hj
  rw [spl_get (by rw [tab_length]; exact h), tab_get (f := fun j => if o ≤ j ∧ j < o + ys.length then ys.getD (j - o) 0 else f j) hj, tab_get (f := f) hj]
/-- The pixel of the old matrix for the pixel number P of the new one. -/
def srcP (W H MW MH P : Nat) : Nat := P / W * MH / H * MW + P % W * MW / W
def fitF (W H MW MH : Nat) (p : List Int) (q : Nat) : Int := p.getD (4 * srcP W H MW MH (q / 4) + q % 4) 0
def fitK (W H MW MH : Nat) (p : List Int) (P q : Nat) : Int := if q < 4 * P then fitF W H MW MH p q else 0
theorem fit_idx {W H x y : Nat} (hx : x < W) (hy : y < H) : y * W + x < W * H := by
  have : (y + 1) * W ≤ H * W := Nat.mul_le_mul_right _ hy
  rw [Nat.mul_comm H W] at this
  have h2 : (y + 1) * W = y * W + W := Nat.succ_mul y W
  omega
theorem div_lt {a b c : Nat} (ha : a < b) (hb : 0 < c) : a * c / b < c := by
  apply Nat.div_lt_of_lt_mul
  rw [Nat.mul_comm b c, Nat.mul_comm a c]
  exact (Nat.mul_lt_mul_left hb).2 ha
theorem fit_src {W H MW MH x y : Nat} (hx : x < W) (hy : y < H) (h1 : 0 < MW) (h2 : 0 < MH) :
    srcP W H MW MH (y * W + x) = y * MH / H * MW + x * MW / W ∧ y * MH / H * MW + x * MW / W < MW * MH := by
  have hW : 0 < W := by omega
  have e1 : (y * W + x) / W = y := by rw [Nat.add_comm, Nat.mul_comm, Nat.add_mul_div_left _ _ hW, Nat.div_eq_of_lt hx]; omega
  have e2 : (y * W + x) % W = x := by rw [Nat.add_comm, Nat.mul_comm, Nat.add_mul_mod_self_left, Nat.mod_eq_of_lt hx]
  refine ⟨by unfold srcP; rw [e1, e2], ?_⟩
  have a1 := div_lt hy h2
  have a2 := div_lt hx h1
  exact fit_idx a2 a1
theorem fitK_s (W H MW MH : Nat) (p : List Int) (P n : Nat) (hP : 4 * P + 4 ≤ n) (Q : Nat) (hQ : srcP W H MW MH P = Q) (ys : List Int) (hl : ys.length = 4) (hy : ∀ j, j < 4 → ys.getD j 0 = p.getD (4 * Q + j) 0) :
    spl (tab n (fitK W H MW MH p P)) (4 * P) ys = tab n (fitK W H MW MH p (P + 1)) := by
  rw [spl_tab (by omega)]
  refine tab_ext fun j hj => ?_
  unfold fitK
  by_cases h1 : j < 4 * P
  · have h2 : ¬ (4 * P ≤ j ∧ j < 4 * P + ys.length) := by omega
    have h3 : j < 4 * (P + 1) := by omega
    simp only [h1, h2, h3, if_true, if_false]
  · by_cases h3 : j < 4 * (P + 1)
    · have h2 : 4 * P ≤ j ∧ j < 4 * P + ys.length := by omega
      rw [if_pos h2, if_pos h3, hy (j - 4 * P) (by omega)]
      unfold fitF
      have e1 : j / 4 = P := by omega
      have e2 : j % 4 = j - 4 * P := by omega
      rw [e1, e2, hQ]
    · have h2 : ¬ (4 * P ≤ j ∧ j < 4 * P + ys.length) := by omega
      simp only [h1, h2, h3, if_false]

theorem same_str {xs ys : List Int} (hx : IsBytes xs) (hy : IsBytes ys) : ((strOfNums xs).toList == (strOfNums ys).toList) = decide (xs = ys) := str_eq hx hy

set_option maxRecDepth 100000 in
set_option maxHeartbeats 8000000 in
theorem equal_any (xs ys : List Int) (a1 a2 : Option Addr) (n1 n2 c1 c2 : Nat) (w : World) (h1 : SlAt .u8 w a1 n1 xs) (h2 : SlAt .u8 w a2 n2 ys) (hb1 : IsBytes xs) (hb2 : IsBytes ys) :
    Calls Try.prog 61 #[.slice a1 n1 c1, .slice a2 n2 c2] w fun e w' => e = .returned (.bool (decide (xs = ys))) ∧ w = w' := by
  have s1 := run_str (P := Try.prog) (dst := 9) Try.underlying29 Try.underlying5 Try.underlying9 (cap := c1) h1
  have s2 := run_str (P := Try.prog) (dst := 9) Try.underlying29 Try.underlying5 Try.underlying9 (cap := c2) h2
  have HE := Lib.hid (str_eq hb1 hb2)
  clear h1 h2 hb1 hb2
  go_enter Try.func61, Try.ntmps61
  go_wp2
  go_ret
  exact ⟨ret_bool HE.out, rfl⟩

set_option maxRecDepth 100000 in
set_option maxHeartbeats 8000000 in
theorem same_any (m1 m2 : Mx) (a1 a2 : Option Addr) (n1 n2 c1 c2 : Nat) (w : World) (h1 : SlAt .u8 w a1 n1 m1.p) (h2 : SlAt .u8 w a2 n2 m2.p) (hb1 : IsBytes m1.p) (hb2 : IsBytes m2.p) :
    Calls Try.prog 29 #[.agg #[.int .i64 m1.w, .int .i64 m1.h, .slice a1 n1 c1], .agg #[.int .i64 m2.w, .int .i64 m2.h, .slice a2 n2 c2]] w fun e w' => e = .returned (.bool (sameM m1 m2)) ∧ Kept (fun _ => False) w w' := by
  obtain ⟨w1, h1', p1⟩ := m1
  obtain ⟨w2, h2', p2⟩ := m2
  simp only at h1 h2 hb1 hb2 ⊢
  obtain ⟨W, hW⟩ : ∃ W, (w.alloc (.cells #[.int .i64 w1, .int .i64 h1', .slice a1 n1 c1] 31)).alloc (.cells #[.int .i64 w2, .int .i64 h2', .slice a2 n2 c2] 31) = W := ⟨_, rfl⟩
  have kW : Kept (fun _ => False) w W := by rw [← hW]; exact ((Kept.refl _ w).alloc _).alloc _
  have b0 : W.heap[w.heap.size]? = some (.cells #[.int .i64 w1, .int .i64 h1', .slice a1 n1 c1] 31 (0, 0)) := by rw [← hW]; exact blk_alloc (blk_new _ _) _
  have b1 : W.heap[w.heap.size + 1]? = some (.cells #[.int .i64 w2, .int .i64 h2', .slice a2 n2 c2] 31 (0, 0)) := by rw [← hW]; exact blk_at _ _ (by simp)
  have HC := Lib.hid (equal_any p1 p2 a1 a2 n1 n2 c1 c2 W (h1.up kW) (h2.up kW) hb1 hb2)
  have HK := Lib.hid kW
  obtain ⟨⟨x0, -⟩, ⟨x1, -⟩, x2, -⟩ := blk3 b0
  obtain ⟨⟨y0, -⟩, ⟨y1, -⟩, y2, -⟩ := blk3 b1
  clear b0 b1 kW h1 h2 hb1 hb2
  by_cases z1 : w1 = w2
  · have g1 : (w1 == w2) = true := by simp [z1]
    by_cases z2 : h1' = h2'
    · have g2 : (h1' == h2') = true := by simp [z2]
      have HE := Lib.hid (show sameM ⟨w1, h1', p1⟩ ⟨w2, h2', p2⟩ = decide (p1 = p2) by unfold sameM; simp [z1, z2])
      clear z1 z2
      go_enter Try.func29, Try.ntmps29
      go_wp2_with (go_at_call 61; refine HC.out.mono ?_; rintro e w' ⟨rfl, rfl⟩)
      go_ret
      exact ⟨ret_bool (by rw [HE.out]), HK.out⟩
    · have g2 : (h1' == h2') = false := by simp [z2]
      have HE := Lib.hid (show sameM ⟨w1, h1', p1⟩ ⟨w2, h2', p2⟩ = false from decide_eq_false (fun h => z2 h.2.1))
      clear z1 z2
      go_enter Try.func29, Try.ntmps29
      go_wp2
      go_ret
      exact ⟨ret_bool (by rw [HE.out]), HK.out⟩
  · have g1 : (w1 == w2) = false := by simp [z1]
    have HE := Lib.hid (show sameM ⟨w1, h1', p1⟩ ⟨w2, h2', p2⟩ = false from decide_eq_false (fun h => z1 h.1))
    clear z1
    go_enter Try.func29, Try.ntmps29
    go_wp2
    go_ret
    exact ⟨ret_bool (by rw [HE.out]), HK.out⟩
/-! ### the plain law -/
theorem fitF_bytes (W H MW MH k : Nat) {p : List Int} (hp : IsBytes p) : IsBytes (tab k (fitF W H MW MH p)) := by
  intro n hn
  simp only [tab, List.mem_map] at hn
  obtain ⟨q, -, rfl⟩ := hn
  exact getD_byte hp _

end Go.Proofs.Ytdjgmhbfohbenaa
