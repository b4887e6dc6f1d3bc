/- The law of making matrices, walked. -/
import Derived.Test.YtgejefhnoloebaaRFrom
import Derived.Test.YtgejefhnoloebaaScales
namespace Go.Proofs.Ytgejefhnoloebaa
open Go.RowKit Go.Sort
set_option linter.unusedVariables false
set_option linter.unusedSimpArgs false
def newS (w h : Int) : Mx × Int := if sizeB w h = true then (⟨w, h, List.replicate (4 * w * h).toNat 0⟩, 0) else (⟨0, 0, []⟩, 1)
theorem new_any (w h : Int) (wd : World) (hw : I64 w) (hh : I64 h) :
    Calls Try.prog 19 #[.int .i64 w, .int .i64 h] wd fun e w' => ∃ v, e = .returned (.tuple #[v, .int .i64 (newS w h).2]) ∧ IsMx wd.heap.size w' v (newS w h).1 ∧ Kept (fun _ => False) wd w' := by
  unfold newS
  by_cases hs : sizeB w h = true
  · rw [if_pos hs]
    refine (new_yes w h wd hs).mono fun e w' ⟨g, n, hn, he, hg, ho, hk⟩ => ⟨_, he, ?_, hk⟩
    rw [show (4 * w * h).toNat = n by omega]
    exact IsMx.of_own ho hg
  · rw [if_neg hs]
    exact (new_no w h wd hw hh (by simpa using hs)).mono fun e w' ⟨he, hk⟩ => ⟨_, he, isMx0 _ _, hk⟩
theorem rnew_any (w h : Int) (wd : World) (hw : I64 w) (hh : I64 h) :
    Calls Try.prog 20 #[.int .i64 w, .int .i64 h] wd fun e w' => ∃ v, e = .returned (.tuple #[v, .int .i64 (newS w h).2]) ∧ IsMx wd.heap.size w' v (newS w h).1 ∧ Kept (fun _ => False) wd w' := by
  unfold newS
  by_cases hs : sizeB w h = true
  · rw [if_pos hs]
    refine (rnew_yes w h wd hs).mono fun e w' ⟨g, n, hn, he, hg, ho, hk⟩ => ⟨_, he, ?_, hk⟩
    rw [show (4 * w * h).toNat = n by omega]
    exact IsMx.of_own ho hg
  · rw [if_neg hs]
    exact (rnew_no w h wd hw hh (by simpa using hs)).mono fun e w' ⟨he, hk⟩ => ⟨_, he, isMx0 _ _, hk⟩

theorem rfrom3_any (w h : Int) (a0 : Option Addr) (len cap : Nat) (xs : List Int) (wd : World) (hw : I64 w) (hh : I64 h)
    (hx : SlAt .u8 wd a0 len xs) (hc : len ≤ cap) (hcm : cap ≤ 9223372036854775807) (hb : ∀ b off, 0 < len → a0 = some ⟨b, off, none⟩ → b < wd.heap.size) :
    Calls Try.prog 22 #[.int .i64 w, .int .i64 h, .slice a0 len cap, .int .i64 3] wd fun e w' => ∃ v, e = .returned (.tuple #[v, .int .i64 (fromS 3 w h xs).2]) ∧ IsMx wd.heap.size w' v (fromS 3 w h xs).1 ∧ Kept (fun _ => False) wd w' := by
  have hxl := hx.1
  by_cases h1 : sizeB w h = false
  · have e : fromS 3 w h xs = (⟨0, 0, []⟩, 1) := if_pos h1
    rw [e]
    exact (rfrom_no w h 3 a0 len cap wd hw hh h1).mono fun e w' ⟨he, hk⟩ => ⟨_, he, isMx0 _ _, hk⟩
  · have h1' : sizeB w h = true := by simpa using h1
    by_cases h2 : (len : Int) = 3 * w * h
    · have e : fromS 3 w h xs = (⟨w, h, tab (4 * w * h).toNat (fromT 3 xs)⟩, 0) := by
        unfold fromS; rw [if_neg h1, if_neg (by omega), if_neg (by omega)]; rfl
      rw [e]
      exact (rfrom3_yes w h a0 len cap xs wd h1' hx hc hcm h2 hb).mono fun e w' ⟨g, n, hn, he, hg, ho, hk⟩ => ⟨_, he, by
        have : (4 * w * h).toNat = n := by omega
        rw [this]; exact IsMx.of_own ho hg, hk⟩
    · have e : fromS 3 w h xs = (⟨0, 0, []⟩, if (len : Int) < 3 * w * h then 2 else 5) := by
        unfold fromS; rw [if_neg h1]
        by_cases h3 : (len : Int) < 3 * w * h
        · rw [if_pos (by omega), if_pos h3]
        · rw [if_neg (by omega), if_pos (by omega), if_neg h3]
      rw [e]
      exact (rfrom3_bad w h a0 len cap wd h1' (by omega) h2).mono fun e w' ⟨he, hk⟩ => ⟨_, he, isMx0 _ _, hk⟩

theorem rfrom4_any (w h : Int) (a0 : Option Addr) (len cap : Nat) (xs : List Int) (wd : World) (hw : I64 w) (hh : I64 h)
    (hx : SlAt .u8 wd a0 len xs) (hc : len ≤ cap) (hcm : cap ≤ 9223372036854775807) (hb : ∀ b off, 0 < len → a0 = some ⟨b, off, none⟩ → b < wd.heap.size) :
    Calls Try.prog 22 #[.int .i64 w, .int .i64 h, .slice a0 len cap, .int .i64 4] wd fun e w' => ∃ v, e = .returned (.tuple #[v, .int .i64 (fromS 4 w h xs).2]) ∧ IsMx wd.heap.size w' v (fromS 4 w h xs).1 ∧ Kept (fun _ => False) wd w' := by
  have hxl := hx.1
  by_cases h1 : sizeB w h = false
  · have e : fromS 4 w h xs = (⟨0, 0, []⟩, 1) := if_pos h1
    rw [e]
    exact (rfrom_no w h 4 a0 len cap wd hw hh h1).mono fun e w' ⟨he, hk⟩ => ⟨_, he, isMx0 _ _, hk⟩
  · have h1' : sizeB w h = true := by simpa using h1
    by_cases h2 : (len : Int) = 4 * w * h
    · have e : fromS 4 w h xs = (⟨w, h, tab (4 * w * h).toNat (fromT 4 xs)⟩, 0) := by
        unfold fromS; rw [if_neg h1, if_neg (by omega), if_neg (by omega)]; rfl
      rw [e]
      exact (rfrom4_yes w h a0 len cap xs wd h1' hx hc hcm h2 hb).mono fun e w' ⟨g, n, hn, he, hg, ho, hk⟩ => ⟨_, he, by
        have : (4 * w * h).toNat = n := by omega
        rw [this]; exact IsMx.of_own ho hg, hk⟩
    · have e : fromS 4 w h xs = (⟨0, 0, []⟩, if (len : Int) < 4 * w * h then 2 else 5) := by
        unfold fromS; rw [if_neg h1]
        by_cases h3 : (len : Int) < 4 * w * h
        · rw [if_pos (by omega), if_pos h3]
        · rw [if_neg (by omega), if_pos (by omega), if_neg h3]
      rw [e]
      exact (rfrom4_bad w h a0 len cap wd h1' (by omega) h2).mono fun e w' ⟨he, hk⟩ => ⟨_, he, isMx0 _ _, hk⟩

theorem newS_bytes (w h : Int) : IsBytes (newS w h).1.p := by
  unfold newS
  split
  · intro n hn; simp at hn; omega
  · intro n hn; cases hn
theorem getD_byte {xs : List Int} (h : IsBytes xs) (j : Nat) : 0 ≤ xs.getD j 0 ∧ xs.getD j 0 < 256 := by
  by_cases hj : j < xs.length
  · rw [List.getD_eq_getElem?_getD, List.getElem?_eq_getElem hj]; exact h _ (List.getElem_mem _)
  · rw [List.getD_eq_getElem?_getD, List.getElem?_eq_none (by omega)]; simp
theorem fromS_bytes (per w h : Int) {xs : List Int} (hx : IsBytes xs) : IsBytes (fromS per w h xs).1.p := by
  unfold fromS
  split
  · intro n hn; cases hn
  split
  · intro n hn; cases hn
  split
  · intro n hn; cases hn
  · intro n hn
    simp only [tab, List.mem_map] at hn
    obtain ⟨q, -, rfl⟩ := hn
    unfold fromT
    split
    · exact getD_byte hx _
    · omega
theorem sameM_self (m : Mx) : sameM m m = true := decide_eq_true ⟨rfl, rfl, rfl⟩
theorem ub_of {k : IntKind} {w : World} {a : Option Addr} {n : Nat} {xs : List Int} (h : SlAt k w a n xs) : ∀ b off, 0 < n → a = some ⟨b, off, none⟩ → b < w.heap.size := by
  intro b off h0 he
  obtain ⟨b', o', he', hc⟩ := h.2.resolve_left (by omega)
  rw [he] at he'; cases he'
  exact lt_of_cell (hc 0 h0)

set_option maxRecDepth 100000 in
set_option maxHeartbeats 4000000 in
theorem makes_early (x y mx my : Int) (a0 am : Option Addr) (len cap n nc : Nat) (w : World) (h : smallB x y = false ∨ 16384 < len ∨ 16384 < n) (hl : len ≤ 9223372036854775807) (hn : n ≤ 9223372036854775807) :
    Calls Try.prog 5 #[.int .i64 x, .int .i64 y, .slice a0 len cap, .agg #[.int .i64 mx, .int .i64 my, .slice am n nc]] w fun e w' => e = .returned (.bool true) ∧ Kept (fun _ => False) w w' := by
  cases hs : smallB x y with
  | false =>
    have HS := Lib.hid (fun w => show Calls Try.prog 17 #[.int .i64 x, .int .i64 y] w fun e w' => e = .returned (.bool false) ∧ w = w' from by rw [← hs]; exact small_any x y w)
    clear hs h
    go_enter Try.func5, Try.ntmps5
    go_wp2_with fail
    refine (known_any _).mono ?_; rintro e w1 ⟨rfl, hk⟩
    have b1 := hk.blk (blk_new w _) id
    have k1 := ((Kept.refl (fun _ => False) w).alloc _).then hk
    obtain ⟨⟨c0, f0⟩, ⟨c1, f1⟩, c2, f2⟩ := blk3 b1
    have HK1 := Lib.hid k1
    have HB1 := Lib.hid b1
    clear hk b1 k1
    go_wp2_with fail
    refine (HS.out _).mono ?_; rintro e w' ⟨rfl, rfl⟩
    go_wp2
    go_ret
    exact ⟨rfl, HK1.out⟩
  | true =>
    have HS := Lib.hid (fun w => show Calls Try.prog 17 #[.int .i64 x, .int .i64 y] w fun e w' => e = .returned (.bool true) ∧ w = w' from by rw [← hs]; exact small_any x y w)
    by_cases h2 : 16384 < len
    · have g2 : decide ((16384 : Int) < (len : Int)) = true := decide_eq_true (by omega)
      clear hs h
      go_enter Try.func5, Try.ntmps5
      go_wp2_with fail
      refine (known_any _).mono ?_; rintro e w1 ⟨rfl, hk⟩
      have b1 := hk.blk (blk_new w _) id
      have k1 := ((Kept.refl (fun _ => False) w).alloc _).then hk
      obtain ⟨⟨c0, f0⟩, ⟨c1, f1⟩, c2, f2⟩ := blk3 b1
      have HK1 := Lib.hid k1
      have HB1 := Lib.hid b1
      clear hk b1 k1
      go_wp2_with fail
      refine (HS.out _).mono ?_; rintro e w' ⟨rfl, rfl⟩
      go_wp2
      go_ret
      exact ⟨rfl, HK1.out⟩
    · have g2 : decide ((16384 : Int) < (len : Int)) = false := decide_eq_false (by omega)
      have h3 : 16384 < n := by rw [hs] at h; simp at h; omega
      have HF := Lib.hid (fun w => show Calls Try.prog 18 #[.agg #[.int .i64 mx, .int .i64 my, .slice am n nc]] w fun e w' => e = .returned (.bool false) ∧ Kept (fun _ => False) w w' from by
        have h := few_any mx my am n nc w hn
        rw [decide_eq_false (by omega)] at h; exact h)
      clear hs h h3
      go_enter Try.func5, Try.ntmps5
      go_wp2_with fail
      refine (known_any _).mono ?_; rintro e w1 ⟨rfl, hk⟩
      have b1 := hk.blk (blk_new w _) id
      have k1 := ((Kept.refl (fun _ => False) w).alloc _).then hk
      obtain ⟨⟨c0, f0⟩, ⟨c1, f1⟩, c2, f2⟩ := blk3 b1
      have HK1 := Lib.hid k1
      have HB1 := Lib.hid b1
      clear hk b1 k1
      go_wp2_with fail
      refine (HS.out _).mono ?_; rintro e w' ⟨rfl, rfl⟩
      go_wp2_with fail
      refine (HF.out _).mono ?_; rintro e w2 ⟨rfl, hk2⟩
      have HK2 := Lib.hid (HK1.out.then hk2)
      clear hk2
      go_wp2
      go_ret
      exact ⟨rfl, HK2.out⟩

set_option maxRecDepth 100000 in
set_option maxHeartbeats 4000000 in
theorem makes_go (x y : Int) (m : Mx) (a0 am : Option Addr) (len cap n nc : Nat) (xs : List Int) (w : World) (hx : I64 x) (hy : I64 y) (hmw : I64 m.w) (hmh : I64 m.h) (hml : m.p.length = n)
    (hsm : smallB x y = true) (h1 : len ≤ 16384) (h2 : n ≤ 16384) (hsl : SlAt .u8 w a0 len xs) (hc : len ≤ cap) (hcm : cap ≤ 9223372036854775807) (hb : IsBytes xs) :
    Calls Try.prog 5 #[.int .i64 x, .int .i64 y, .slice a0 len cap, .agg #[.int .i64 m.w, .int .i64 m.h, .slice am n nc]] w fun e w' => e = .returned (.bool true) ∧ Kept (fun _ => False) w w' := by
  have HS := Lib.hid (fun w => show Calls Try.prog 17 #[.int .i64 x, .int .i64 y] w fun e w' => e = .returned (.bool true) ∧ w = w' from by rw [← hsm]; exact small_any x y w)
  have g2 : decide ((16384 : Int) < (len : Int)) = false := decide_eq_false (by omega)
  have HF := Lib.hid (fun w => show Calls Try.prog 18 #[.agg #[.int .i64 m.w, .int .i64 m.h, .slice am n nc]] w fun e w' => e = .returned (.bool true) ∧ Kept (fun _ => False) w w' from by
    have h := few_any m.w m.h am n nc w (by omega)
    rw [decide_eq_true h2] at h; exact h)
  have hub := ub_of hsl
  obtain ⟨r, hr⟩ : ∃ r, rightM m = r := ⟨_, rfl⟩
  have Q6 := Lib.hid (fun w => show Calls Try.prog 25 #[.agg #[.int .i64 m.w, .int .i64 m.h, .slice am n nc]] w fun e w' => e = .returned (.bool r) ∧ Kept (fun _ => False) w w' from by rw [← hr]; exact right_any m am n nc w hmw hmh hml (by omega))
  have Q7 := Lib.hid (fun w => show Calls Try.prog 26 #[.agg #[.int .i64 m.w, .int .i64 m.h, .slice am n nc]] w fun e w' => e = .returned (.bool r) ∧ Kept (fun _ => False) w w' from by rw [← hr]; exact rright_any m am n nc w hmw hmh hml (by omega))
  have Q8 := Lib.hid (fun w => of_any m.w m.h am n nc w)
  obtain ⟨X1, hX1⟩ : ∃ X, (newS x y).1 = X := ⟨_, rfl⟩
  obtain ⟨e1, he1⟩ : ∃ X, (newS x y).2 = X := ⟨_, rfl⟩
  obtain ⟨X2, hX2⟩ : ∃ X, (fromS 3 x y xs).1 = X := ⟨_, rfl⟩
  obtain ⟨e2, he2⟩ : ∃ X, (fromS 3 x y xs).2 = X := ⟨_, rfl⟩
  obtain ⟨X3, hX3⟩ : ∃ X, (fromS 4 x y xs).1 = X := ⟨_, rfl⟩
  obtain ⟨e3, he3⟩ : ∃ X, (fromS 4 x y xs).2 = X := ⟨_, rfl⟩
  have HYX1 := Lib.hid (show IsBytes X1.p from by rw [← hX1]; exact newS_bytes x y)
  have HYX2 := Lib.hid (show IsBytes X2.p from by rw [← hX2]; exact fromS_bytes 3 x y hb)
  have HYX3 := Lib.hid (show IsBytes X3.p from by rw [← hX3]; exact fromS_bytes 4 x y hb)
  have HSLB := Lib.hid hsl
  have DN := Lib.hid (fun (V : World) (hk : Kept (fun _ => False) w V) => show Calls Try.prog 19 #[.int .i64 x, .int .i64 y] V fun e w' => ∃ v, e = .returned (.tuple #[v, .int .i64 e1]) ∧ IsMx V.heap.size w' v X1 ∧ Kept (fun _ => False) V w' from by rw [← hX1, ← he1]; exact new_any x y V hx hy)
  have DR := Lib.hid (fun (V : World) (hk : Kept (fun _ => False) w V) => show Calls Try.prog 20 #[.int .i64 x, .int .i64 y] V fun e w' => ∃ v, e = .returned (.tuple #[v, .int .i64 e1]) ∧ IsMx V.heap.size w' v X1 ∧ Kept (fun _ => False) V w' from by rw [← hX1, ← he1]; exact rnew_any x y V hx hy)
  have hbV : ∀ V, Kept (fun _ => False) w V → ∀ b off, 0 < len → a0 = some ⟨b, off, none⟩ → b < V.heap.size := fun V hk b off h0 he => Nat.lt_of_lt_of_le (hub b off h0 he) hk.size
  have D3 := Lib.hid (fun (V : World) (hk : Kept (fun _ => False) w V) => show Calls Try.prog 21 #[.int .i64 x, .int .i64 y, .slice a0 len cap] V fun e w' => ∃ v, e = .returned (.tuple #[v, .int .i64 e2]) ∧ IsMx V.heap.size w' v X2 ∧ Kept (fun _ => False) V w' from by rw [← hX2, ← he2]; exact fromRGB_any x y a0 len cap xs V hx hy (HSLB.out.up hk) hc hcm (hbV V hk))
  have R3 := Lib.hid (fun (V : World) (hk : Kept (fun _ => False) w V) => show Calls Try.prog 22 #[.int .i64 x, .int .i64 y, .slice a0 len cap, .int .i64 3] V fun e w' => ∃ v, e = .returned (.tuple #[v, .int .i64 e2]) ∧ IsMx V.heap.size w' v X2 ∧ Kept (fun _ => False) V w' from by rw [← hX2, ← he2]; exact rfrom3_any x y a0 len cap xs V hx hy (HSLB.out.up hk) hc hcm (hbV V hk))
  have D4 := Lib.hid (fun (V : World) (hk : Kept (fun _ => False) w V) => show Calls Try.prog 23 #[.int .i64 x, .int .i64 y, .slice a0 len cap] V fun e w' => ∃ v, e = .returned (.tuple #[v, .int .i64 e3]) ∧ IsMx V.heap.size w' v X3 ∧ Kept (fun _ => False) V w' from by rw [← hX3, ← he3]; exact fromRGBA_any x y a0 len cap xs V hx hy (HSLB.out.up hk) hc hcm (hbV V hk))
  have R4 := Lib.hid (fun (V : World) (hk : Kept (fun _ => False) w V) => show Calls Try.prog 22 #[.int .i64 x, .int .i64 y, .slice a0 len cap, .int .i64 4] V fun e w' => ∃ v, e = .returned (.tuple #[v, .int .i64 e3]) ∧ IsMx V.heap.size w' v X3 ∧ Kept (fun _ => False) V w' from by rw [← hX3, ← he3]; exact rfrom4_any x y a0 len cap xs V hx hy (HSLB.out.up hk) hc hcm (hbV V hk))
  clear hX1 he1 hX2 he2 hX3 he3 hbV hub hsl hml hmw hmh hsm hb hr h2
  go_enter Try.func5, Try.ntmps5
  go_wp2_with fail
  refine (known_any _).mono ?_; rintro e w1 ⟨rfl, hk⟩
  have b1 := hk.blk (blk_new w _) id
  have k1 := ((Kept.refl (fun _ => False) w).alloc _).then hk
  obtain ⟨⟨c0, f0⟩, ⟨c1, f1⟩, c2, f2⟩ := blk3 b1
  have HK1 := Lib.hid k1
  have HB1 := Lib.hid b1
  clear hk b1 k1
  go_wp2_with fail
  refine (HS.out _).mono ?_; rintro e w' ⟨rfl, rfl⟩
  go_wp2_with fail
  refine (HF.out _).mono ?_; rintro e w2 ⟨rfl, hk2⟩
  have HK := Lib.hid (HK1.out.then hk2)
  have HBM := Lib.hid (hk2.blk HB1.out id)
  clear hk2 c0 c1 c2 f0 f1 f2
  go_wp2_with fail
  refine (DN.out _ HK.out).mono ?_; rintro e v0 ⟨vv, rfl, ⟨a0, n0, c0, rfl, hs0, -⟩, hk⟩
  obtain ⟨V0, hV0⟩ : ∃ V, v0.alloc (.cells #[.int .i64 X1.w, .int .i64 X1.h, .slice a0 n0 c0] 35) = V := ⟨_, rfl⟩
  have kV : Kept (fun _ => False) v0 V0 := by rw [← hV0]; exact (Kept.refl _ _).alloc _
  have HBK0 := Lib.hid (show V0.heap[v0.heap.size]? = some (.cells #[.int .i64 X1.w, .int .i64 X1.h, .slice a0 n0 c0] 35 (0, 0)) from by rw [← hV0]; exact blk_new _ _)
  have HSL0 := Lib.hid (hs0.up kV)
  have HBM := Lib.hid ((hk.then kV).blk HBM.out id)
  have HK := Lib.hid ((HK.out.then hk).then kV)
  clear hk kV hs0
  unfold mat
  go_wp2_with fail
  refine (DR.out _ HK.out).mono ?_; rintro e v1 ⟨vv, rfl, ⟨a1, n1, c1, rfl, hs1, -⟩, hk⟩
  obtain ⟨V1, hV1⟩ : ∃ V, v1.alloc (.cells #[.int .i64 X1.w, .int .i64 X1.h, .slice a1 n1 c1] 41) = V := ⟨_, rfl⟩
  have kV : Kept (fun _ => False) v1 V1 := by rw [← hV1]; exact (Kept.refl _ _).alloc _
  have HBK1 := Lib.hid (show V1.heap[v1.heap.size]? = some (.cells #[.int .i64 X1.w, .int .i64 X1.h, .slice a1 n1 c1] 41 (0, 0)) from by rw [← hV1]; exact blk_new _ _)
  have HSL1 := Lib.hid (hs1.up kV)
  have HBK0 := Lib.hid ((hk.then kV).blk HBK0.out id)
  have HSL0 := Lib.hid (HSL0.out.up (hk.then kV))
  have HBM := Lib.hid ((hk.then kV).blk HBM.out id)
  have HK := Lib.hid ((HK.out.then hk).then kV)
  clear hk kV hs1
  unfold mat
  go_wp2_with fail
  refine (D3.out _ HK.out).mono ?_; rintro e v2 ⟨vv, rfl, ⟨a2, n2, c2, rfl, hs2, -⟩, hk⟩
  obtain ⟨V2, hV2⟩ : ∃ V, v2.alloc (.cells #[.int .i64 X2.w, .int .i64 X2.h, .slice a2 n2 c2] 35) = V := ⟨_, rfl⟩
  have kV : Kept (fun _ => False) v2 V2 := by rw [← hV2]; exact (Kept.refl _ _).alloc _
  have HBK2 := Lib.hid (show V2.heap[v2.heap.size]? = some (.cells #[.int .i64 X2.w, .int .i64 X2.h, .slice a2 n2 c2] 35 (0, 0)) from by rw [← hV2]; exact blk_new _ _)
  have HSL2 := Lib.hid (hs2.up kV)
  have HBK0 := Lib.hid ((hk.then kV).blk HBK0.out id)
  have HSL0 := Lib.hid (HSL0.out.up (hk.then kV))
  have HBK1 := Lib.hid ((hk.then kV).blk HBK1.out id)
  have HSL1 := Lib.hid (HSL1.out.up (hk.then kV))
  have HBM := Lib.hid ((hk.then kV).blk HBM.out id)
  have HK := Lib.hid ((HK.out.then hk).then kV)
  clear hk kV hs2
  unfold mat
  go_wp2_with fail
  refine (R3.out _ HK.out).mono ?_; rintro e v3 ⟨vv, rfl, ⟨a3, n3, c3, rfl, hs3, -⟩, hk⟩
  obtain ⟨V3, hV3⟩ : ∃ V, v3.alloc (.cells #[.int .i64 X2.w, .int .i64 X2.h, .slice a3 n3 c3] 41) = V := ⟨_, rfl⟩
  have kV : Kept (fun _ => False) v3 V3 := by rw [← hV3]; exact (Kept.refl _ _).alloc _
  have HBK3 := Lib.hid (show V3.heap[v3.heap.size]? = some (.cells #[.int .i64 X2.w, .int .i64 X2.h, .slice a3 n3 c3] 41 (0, 0)) from by rw [← hV3]; exact blk_new _ _)
  have HSL3 := Lib.hid (hs3.up kV)
  have HBK0 := Lib.hid ((hk.then kV).blk HBK0.out id)
  have HSL0 := Lib.hid (HSL0.out.up (hk.then kV))
  have HBK1 := Lib.hid ((hk.then kV).blk HBK1.out id)
  have HSL1 := Lib.hid (HSL1.out.up (hk.then kV))
  have HBK2 := Lib.hid ((hk.then kV).blk HBK2.out id)
  have HSL2 := Lib.hid (HSL2.out.up (hk.then kV))
  have HBM := Lib.hid ((hk.then kV).blk HBM.out id)
  have HK := Lib.hid ((HK.out.then hk).then kV)
  clear hk kV hs3
  unfold mat
  go_wp2_with fail
  refine (D4.out _ HK.out).mono ?_; rintro e v4 ⟨vv, rfl, ⟨a4, n4, c4, rfl, hs4, -⟩, hk⟩
  obtain ⟨V4, hV4⟩ : ∃ V, v4.alloc (.cells #[.int .i64 X3.w, .int .i64 X3.h, .slice a4 n4 c4] 35) = V := ⟨_, rfl⟩
  have kV : Kept (fun _ => False) v4 V4 := by rw [← hV4]; exact (Kept.refl _ _).alloc _
  have HBK4 := Lib.hid (show V4.heap[v4.heap.size]? = some (.cells #[.int .i64 X3.w, .int .i64 X3.h, .slice a4 n4 c4] 35 (0, 0)) from by rw [← hV4]; exact blk_new _ _)
  have HSL4 := Lib.hid (hs4.up kV)
  have HBK0 := Lib.hid ((hk.then kV).blk HBK0.out id)
  have HSL0 := Lib.hid (HSL0.out.up (hk.then kV))
  have HBK1 := Lib.hid ((hk.then kV).blk HBK1.out id)
  have HSL1 := Lib.hid (HSL1.out.up (hk.then kV))
  have HBK2 := Lib.hid ((hk.then kV).blk HBK2.out id)
  have HSL2 := Lib.hid (HSL2.out.up (hk.then kV))
  have HBK3 := Lib.hid ((hk.then kV).blk HBK3.out id)
  have HSL3 := Lib.hid (HSL3.out.up (hk.then kV))
  have HBM := Lib.hid ((hk.then kV).blk HBM.out id)
  have HK := Lib.hid ((HK.out.then hk).then kV)
  clear hk kV hs4
  unfold mat
  go_wp2_with fail
  refine (R4.out _ HK.out).mono ?_; rintro e v5 ⟨vv, rfl, ⟨a5, n5, c5, rfl, hs5, -⟩, hk⟩
  obtain ⟨V5, hV5⟩ : ∃ V, v5.alloc (.cells #[.int .i64 X3.w, .int .i64 X3.h, .slice a5 n5 c5] 41) = V := ⟨_, rfl⟩
  have kV : Kept (fun _ => False) v5 V5 := by rw [← hV5]; exact (Kept.refl _ _).alloc _
  have HBK5 := Lib.hid (show V5.heap[v5.heap.size]? = some (.cells #[.int .i64 X3.w, .int .i64 X3.h, .slice a5 n5 c5] 41 (0, 0)) from by rw [← hV5]; exact blk_new _ _)
  have HSL5 := Lib.hid (hs5.up kV)
  have HBK0 := Lib.hid ((hk.then kV).blk HBK0.out id)
  have HSL0 := Lib.hid (HSL0.out.up (hk.then kV))
  have HBK1 := Lib.hid ((hk.then kV).blk HBK1.out id)
  have HSL1 := Lib.hid (HSL1.out.up (hk.then kV))
  have HBK2 := Lib.hid ((hk.then kV).blk HBK2.out id)
  have HSL2 := Lib.hid (HSL2.out.up (hk.then kV))
  have HBK3 := Lib.hid ((hk.then kV).blk HBK3.out id)
  have HSL3 := Lib.hid (HSL3.out.up (hk.then kV))
  have HBK4 := Lib.hid ((hk.then kV).blk HBK4.out id)
  have HSL4 := Lib.hid (HSL4.out.up (hk.then kV))
  have HBM := Lib.hid ((hk.then kV).blk HBM.out id)
  have HK := Lib.hid ((HK.out.then hk).then kV)
  clear hk kV hs5
  unfold mat
  obtain ⟨⟨p0a, -⟩, ⟨p0b, -⟩, p0c, -⟩ := blk3 HBK0.out
  have P0a := cell_regrown p0a
  have P0b := cell_regrown p0b
  have P0c := cell_regrown p0c
  clear p0a p0b p0c
  obtain ⟨⟨p1a, -⟩, ⟨p1b, -⟩, p1c, -⟩ := blk3 HBK1.out
  have P1a := cell_regrown p1a
  have P1b := cell_regrown p1b
  have P1c := cell_regrown p1c
  clear p1a p1b p1c
  obtain ⟨⟨p2a, -⟩, ⟨p2b, -⟩, p2c, -⟩ := blk3 HBK2.out
  have P2a := cell_regrown p2a
  have P2b := cell_regrown p2b
  have P2c := cell_regrown p2c
  clear p2a p2b p2c
  obtain ⟨⟨p3a, -⟩, ⟨p3b, -⟩, p3c, -⟩ := blk3 HBK3.out
  have P3a := cell_regrown p3a
  have P3b := cell_regrown p3b
  have P3c := cell_regrown p3c
  clear p3a p3b p3c
  obtain ⟨⟨p4a, -⟩, ⟨p4b, -⟩, p4c, -⟩ := blk3 HBK4.out
  have P4a := cell_regrown p4a
  have P4b := cell_regrown p4b
  have P4c := cell_regrown p4c
  clear p4a p4b p4c
  obtain ⟨⟨p5a, -⟩, ⟨p5b, -⟩, p5c, -⟩ := blk3 HBK5.out
  have P5a := cell_regrown p5a
  have P5b := cell_regrown p5b
  have P5c := cell_regrown p5c
  clear p5a p5b p5c
  obtain ⟨⟨pma, -⟩, ⟨pmb, -⟩, pmc, -⟩ := blk3 HBM.out
  have PMa := cell_regrown pma
  have PMb := cell_regrown pmb
  have PMc := cell_regrown pmc
  clear pma pmb pmc
  have Q0 := Lib.hid (fun (V' : World) (hk : Kept (fun _ => False) V5 V') => show Calls Try.prog 24 #[.agg #[.int .i64 X1.w, .int .i64 X1.h, .slice a0 n0 c0], .agg #[.int .i64 X1.w, .int .i64 X1.h, .slice a1 n1 c1]] V' fun e w' => e = .returned (.bool true) ∧ Kept (fun _ => False) V' w' from by
    have h := alike_any X1 X1 a0 a1 n0 n1 c0 c1 V' (HSL0.out.up hk) (HSL1.out.up hk) HYX1.out HYX1.out
    rw [sameM_self] at h; exact h)
  have Q2 := Lib.hid (fun (V' : World) (hk : Kept (fun _ => False) V5 V') => show Calls Try.prog 24 #[.agg #[.int .i64 X2.w, .int .i64 X2.h, .slice a2 n2 c2], .agg #[.int .i64 X2.w, .int .i64 X2.h, .slice a3 n3 c3]] V' fun e w' => e = .returned (.bool true) ∧ Kept (fun _ => False) V' w' from by
    have h := alike_any X2 X2 a2 a3 n2 n3 c2 c3 V' (HSL2.out.up hk) (HSL3.out.up hk) HYX2.out HYX2.out
    rw [sameM_self] at h; exact h)
  have Q4 := Lib.hid (fun (V' : World) (hk : Kept (fun _ => False) V5 V') => show Calls Try.prog 24 #[.agg #[.int .i64 X3.w, .int .i64 X3.h, .slice a4 n4 c4], .agg #[.int .i64 X3.w, .int .i64 X3.h, .slice a5 n5 c5]] V' fun e w' => e = .returned (.bool true) ∧ Kept (fun _ => False) V' w' from by
    have h := alike_any X3 X3 a4 a5 n4 n5 c4 c5 V' (HSL4.out.up hk) (HSL5.out.up hk) HYX3.out HYX3.out
    rw [sameM_self] at h; exact h)
  clear hV0 hV1 hV2 hV3 hV4
  go_wp2
  clear hV5
  refine wp_region_quiet_below (by kernel_rfl) (by kernel_rfl) ?_
  repeat (quiet_step (first | with_reducible exact quietC Q0.out | with_reducible exact quietC Q2.out | with_reducible exact quietC Q4.out | with_reducible exact quietC (fun V' _ => Q6.out V') | with_reducible exact quietC (fun V' _ => Q7.out V') | with_reducible exact quietC (fun V' _ => Q8.out V')))
  refine wpQuiet_nil ?_
  rintro _ ⟨⟨dd, os⟩, rfl⟩
  go_wp2
  go_ret
  exact ⟨rfl, HK.out.then (kept_of_regrown dd os)⟩
theorem law_makes {x y : Int} {a0 : Option Addr} {len cap : Nat} {zs : List Int} {mx my : Int} {am : Option Addr} {n nc : Nat} {zm : List Int} {w : World} (f0 : (Lit.int .i64 x).wf = true) (f1 : (Lit.int .i64 y).wf = true) (f2 : IsRow .u8 w a0 len cap zs)
    (f3 : (Lit.int .i64 mx).wf = true ∧ (Lit.int .i64 my).wf = true ∧ IsRow .u8 w am n nc zm) :
    Calls Try.prog 5 #[.int .i64 x, .int .i64 y, .slice a0 len cap, .agg #[.int .i64 mx, .int .i64 my, .slice am n nc]] w fun e w' => e = .returned (.bool true) ∧ Below w.heap.size w w' := by
  refine Calls.mono (R := fun e w' => e = .returned (.bool true) ∧ Kept (fun _ => False) w w') ?_ fun _ _ h => ⟨h.1, h.2.below⟩
  obtain ⟨s1, l1, m1, b1, -, -⟩ := f2.slAt
  obtain ⟨s2, l2, m2, b2, -, -⟩ := f3.2.2.slAt
  by_cases h : smallB x y = true ∧ len ≤ 16384 ∧ n ≤ 16384
  · exact makes_go x y ⟨mx, my, zm.take n⟩ a0 am len cap n nc _ w (int_of_wf f0) (int_of_wf f1) (int_of_wf f3.1) (int_of_wf f3.2.1) s2.1 h.1 h.2.1 h.2.2 s1 l1 m1 (fun v hv => by have := byte_of_wf (b1 v hv); omega)
  · refine makes_early x y mx my a0 am len cap n nc w ?_ (by omega) (by omega)
    cases hs : smallB x y with
    | false => exact .inl rfl
    | true => right; rw [hs] at h; simp at h; omega
end Go.Proofs.Ytgejefhnoloebaa
