/- A glyph by itself: the document's. -/
import Derived.Test.YtdjgmhbfohbenaaKindD
import Derived.Test.YtdjgmhbfohbenaaRPut
import Derived.Test.YtdjgmhbfohbenaaGlyD
namespace Go.Proofs.Ytdjgmhbfohbenaa
open Go.RowKit Go.Sort Pl
set_option linter.unusedVariables false
set_option linter.unusedSimpArgs false
/-- Byte k of a pixel of a glyph, by its kind. -/
noncomputable def glyK (W H : Nat) (r : Int) (a : Look) (Q k : Nat) : Int :=
  let c := if kindI r W H a.fl ((Q % W : Nat) : Int) ((Q / W : Nat) : Int) = 1 then (colors a).1 else (colors a).2
  [c.r, c.g, c.b, 255].getD k 0
noncomputable def rglyP (W H : Nat) (r : Int) (a : Look) : List Int := tab (4 * (W * H)) (paintF ⟨W, 0, 0, 0, 0, W, 0, H⟩ (List.replicate (4 * (W * H)) 0) (glyK W H r a))
/-- What holds of memory while the document's glyph is made. -/
def RgI (w : World) (W H n g m P Q : Nat) (fg bg fl : Int) (F B : Rgb) (L : List Int) (wr : World) : Prop :=
  Own .u8 5 wr (.slice (some ⟨g, 0, none⟩) n n) L ∧ Kept (fun _ => False) w wr ∧ wr.heap[w.heap.size]? = some (.cells #[.int .i64 fg, .int .i64 bg, .int .i64 fl] 54 (0, 0)) ∧ wr.heap[w.heap.size + 1]? = some (.cells #[.int .i64 0, .int .i64 0, .slice none 0 0] 35 (0, 0)) ∧
  wr.heap[P]? = some (.cells #[.int .u8 F.r, .int .u8 F.g, .int .u8 F.b] 96 (0, 0)) ∧ wr.heap[P + 1]? = some (.cells #[.int .u8 B.r, .int .u8 B.g, .int .u8 B.b] 96 (0, 0)) ∧ wr.heap[m]? = some (.cells #[.int .i64 W, .int .i64 H, .slice (some ⟨g, 0, none⟩) n n] 35 (0, 0))
theorem RgI.kept {w : World} {W H n g m P Q : Nat} {fg bg fl : Int} {F B : Rgb} {L : List Int} {wr w2 : World} (h : RgI w W H n g m P Q fg bg fl F B L wr) (hk : Kept (fun _ => False) wr w2) : RgI w W H n g m P Q fg bg fl F B L w2 :=
  ⟨h.1.kept hk (fun _ _ => id), h.2.1.then hk, hk.blk h.2.2.1 id, hk.blk h.2.2.2.1 id, hk.blk h.2.2.2.2.1 id, hk.blk h.2.2.2.2.2.1 id, hk.blk h.2.2.2.2.2.2 id⟩
/-- A block beyond all of these is written. -/
theorem RgI.fresh {w : World} {W H n g m P Q : Nat} {fg bg fl : Int} {F B : Rgb} {L : List Int} {wr w2 : World} {q : Nat} (h : RgI w W H n g m P Q fg bg fl F B L wr) (hk : Kept (fun i => i = q) wr w2) (hg : g ≠ q) (hz : w.heap.size + 1 < q) (hP : P + 1 < q) (hm : m ≠ q) : RgI w W H n g m P Q fg bg fl F B L w2 :=
  ⟨h.1.kept hk (fun b hb hS => by have h9 : b = q := hS; cases hb; exact hg h9), h.2.1.trans (hk.mono fun i _ hi => Or.inr (by have h9 : i = q := hi; omega)), hk.blk h.2.2.1 (fun (h : w.heap.size = q) => by omega), hk.blk h.2.2.2.1 (fun (h : w.heap.size + 1 = q) => by omega), hk.blk h.2.2.2.2.1 (fun (h : P = q) => by omega), hk.blk h.2.2.2.2.2.1 (fun (h : P + 1 = q) => by omega), hk.blk h.2.2.2.2.2.2 (fun (h : m = q) => hm h)⟩
theorem RgI.put {w : World} {W H n g m P Q : Nat} {fg bg fl : Int} {F B : Rgb} {L L' : List Int} {wr w2 : World} (h : RgI w W H n g m P Q fg bg fl F B L wr) (ho : Own .u8 5 w2 (.slice (some ⟨g, 0, none⟩) n n) L') (hk : Kept (fun i => i = g) wr w2) (hgw : w.heap.size + 1 < g) (hP : P ≠ g ∧ P + 1 ≠ g) (hm : m ≠ g) : RgI w W H n g m P Q fg bg fl F B L' w2 :=
  ⟨ho, h.2.1.trans (hk.mono fun i _ hi => Or.inr (by have h9 : i = g := hi; omega)), hk.blk h.2.2.1 (fun (h : w.heap.size = g) => by omega), hk.blk h.2.2.2.1 (fun (h : w.heap.size + 1 = g) => by omega), hk.blk h.2.2.2.2.1 (fun (h : P = g) => hP.1 h), hk.blk h.2.2.2.2.2.1 (fun (h : P + 1 = g) => hP.2 h), hk.blk h.2.2.2.2.2.2 (fun (h : m = g) => hm h)⟩
set_option maxRecDepth 100000 in
set_option maxHeartbeats 8000000 in
theorem rglyph_yes (r : Int) (W H : Nat) (a : Look) (wd : World) (hr : -2147483648 ≤ r ∧ r ≤ 2147483647) (hw : 1 ≤ W ∧ W ≤ 128) (hh : 1 ≤ H ∧ H ≤ 64) :
    Calls Try.prog 19 #[.int .i64 r, .int .i64 W, .int .i64 H, lookV a] wd fun e w' => ∃ g : Nat, e = .returned (.tuple #[mat W H (some ⟨g, 0, none⟩) (4 * (W * H)) (4 * (W * H)), .int .i64 0]) ∧ wd.heap.size ≤ g ∧ Own .u8 5 w' (.slice (some ⟨g, 0, none⟩) (4 * (W * H)) (4 * (W * H))) (rglyP W H r a) ∧ Kept (fun _ => False) wd w' := by
  have hWH : W * H ≤ 128 * 64 := Nat.mul_le_mul hw.2 hh.2
  have hsz : sizeB W H = true := by
    unfold sizeB
    refine decide_eq_true (.inr ⟨by omega, by omega, by omega, by omega, ?_⟩)
    rw [show (W : Int) * (H : Int) = ((W * H : Nat) : Int) by simp]; omega
  obtain ⟨fg, bg, fl⟩ := a
  obtain ⟨F, hF⟩ : ∃ F, (colors ⟨fg, bg, fl⟩).1 = F := ⟨_, rfl⟩
  obtain ⟨B, hB⟩ : ∃ B, (colors ⟨fg, bg, fl⟩).2 = B := ⟨_, rfl⟩
  have HC := Lib.hid (show ∀ w, Calls Try.prog 36 #[.agg #[.int .i64 fg, .int .i64 bg, .int .i64 fl]] w fun e w' => e = .returned (.tuple #[.agg #[.int .u8 F.r, .int .u8 F.g, .int .u8 F.b], .agg #[.int .u8 B.r, .int .u8 B.g, .int .u8 B.b]]) ∧ Kept (fun _ => False) w w' from fun w => by have h := rcols_any ⟨fg, bg, fl⟩ w; unfold ColsPost at h; rw [hF, hB] at h; exact h)
  have HFF := Lib.hid (show ∀ w, Calls Try.prog 39 #[.agg #[.int .u8 F.r, .int .u8 F.g, .int .u8 F.b]] w fun e w' => e = .returned (.agg #[.int .u8 F.r, .int .u8 F.g, .int .u8 F.b, .int .u8 255]) ∧ Kept (fun _ => False) w w' from fun w => full_any F w)
  have HFB := Lib.hid (show ∀ w, Calls Try.prog 39 #[.agg #[.int .u8 B.r, .int .u8 B.g, .int .u8 B.b]] w fun e w' => e = .returned (.agg #[.int .u8 B.r, .int .u8 B.g, .int .u8 B.b, .int .u8 255]) ∧ Kept (fun _ => False) w w' from fun w => full_any B w)
  obtain ⟨n, hn⟩ : ∃ n, 4 * (W * H) = n := ⟨_, rfl⟩
  obtain ⟨t, ht⟩ : ∃ t : Spot, (⟨W, 0, 0, 0, 0, W, 0, H⟩ : Spot) = t := ⟨_, rfl⟩
  obtain ⟨K, hK⟩ : ∃ K, glyK W H r ⟨fg, bg, fl⟩ = K := ⟨_, rfl⟩
  obtain ⟨z, hz⟩ : ∃ z, List.replicate n (0 : Int) = z := ⟨_, rfl⟩
  have hzl : z.length = n := by rw [← hz]; simp
  have HGLY := Lib.hid (show rglyP W H r ⟨fg, bg, fl⟩ = tab n (paintF t z K) from by unfold rglyP; rw [hn, ht, hK, hz])
  have HSTART := Lib.hid (show tab n (paintD t z K 0 0) = z from by have h := paintD_start t z K n hzl; rw [← ht] at h ⊢; exact h)
  have HEND := Lib.hid (show tab n (paintD t z K H 0) = tab n (paintF t z K) from paintD_end t z K n 0 H (by rw [← ht]; exact Nat.le_refl _))
  have HROWS := Lib.hid (fun (Y : Nat) => show tab n (paintD t z K Y W) = tab n (paintD t z K (Y + 1) 0) from by have h := paintD_row t z K n W Y (by rw [← ht]; exact Nat.le_refl _); rw [← ht] at h ⊢; exact h)
  have HSTEP := Lib.hid (fun (X Y : Nat) (c0 c1 c2 : Int) (hXW : X < W) (hY : Y < H) (hc : ∀ k, k < 4 → [c0, c1, c2, 255].getD k 0 = K (Y * W + X) k) (hn : 4 * (Y * W + X) + 4 ≤ n) => show spl (tab n (paintD t z K Y X)) (4 * (Y * W + X)) [c0, c1, c2, 255] = tab n (paintD t z K Y (X + 1)) from by
    have h := paintD_step t z K n X Y (by rw [← ht]; exact hXW) (by rw [← ht]; exact Nat.zero_le _) (by rw [← ht]; exact hXW) (by rw [← ht]; exact Nat.zero_le _) (by rw [← ht]; exact hY) (by rw [← ht]; exact hn) [c0, c1, c2, 255] rfl (by rw [← ht]; exact hc)
    rw [← ht] at h ⊢
    exact h)
  have HKK := Lib.hid (fun (X Y : Nat) (hX : X < W) => show (∀ k, k < 4 → (if kindI r W H fl X Y = 1 then [F.r, F.g, F.b, 255] else [B.r, B.g, B.b, 255]).getD k 0 = K (Y * W + X) k) from fun k _ => by
    rw [← hK]
    unfold glyK
    obtain ⟨e1, e2⟩ := pos_of (W := W) (x := X) (y := Y) hX
    simp only [e1, e2, hF, hB]
    split <;> rfl)
  have HN := Lib.hid (And.intro hn (And.intro (And.intro hw hh) (And.intro hWH hr)))
  have HNEW := Lib.hid (fun w => show Calls Try.prog 35 #[.int .i64 W, .int .i64 H] w fun e w' => ∃ g, e = .returned (.tuple #[.agg #[.int .i64 W, .int .i64 H, .slice (some ⟨g, 0, none⟩) n n], .int .i64 0]) ∧ w.heap.size ≤ g ∧ Own .u8 5 w' (.slice (some ⟨g, 0, none⟩) n n) z ∧ Kept (fun _ => False) w w' from (rnew_yes W H w hsz).mono fun e w' ⟨g, k, hk, he, h1, h2, h3⟩ => by
    obtain rfl : k = n := by
      rw [Int.mul_assoc, show (W : Int) * (H : Int) = ((W * H : Nat) : Int) by simp] at hk
      omega
    rw [hz] at h2
    exact ⟨g, he, h1, h2, h3⟩)
  rw [hn, HGLY.out]
  have gW1 : decide (W < 1) = false := decide_eq_false (by omega)
  have gW2 : decide (128 < W) = false := decide_eq_false (by omega)
  have gH1 : decide (H < 1) = false := decide_eq_false (by omega)
  have gH2 : decide (64 < H) = false := decide_eq_false (by omega)
  have gW1' : decide ((W : Int) < 1) = false := decide_eq_false (by omega)
  have gW2' : decide (128 < (W : Int)) = false := decide_eq_false (by omega)
  have gH1' : decide ((H : Int) < 1) = false := decide_eq_false (by omega)
  have gH2' : decide (64 < (H : Int)) = false := decide_eq_false (by omega)
  clear hF hB hsz hw hh hWH hn hr ht hK hz hzl
  obtain ⟨W0, hW0⟩ : ∃ W0, (wd.alloc (.cells #[.int .i64 fg, .int .i64 bg, .int .i64 fl] 54)).alloc (.cells #[.int .i64 0, .int .i64 0, .slice none 0 0] 35) = W0 := ⟨_, rfl⟩
  have k0 : Kept (fun _ => False) wd W0 := by rw [← hW0]; exact ((Kept.refl _ _).alloc _).alloc _
  have c0 : W0.heap[wd.heap.size]? = some (.cells #[.int .i64 fg, .int .i64 bg, .int .i64 fl] 54 (0, 0)) := by rw [← hW0]; exact blk_alloc (blk_new _ _) _
  have c1 : W0.heap[wd.heap.size + 1]? = some (.cells #[.int .i64 0, .int .i64 0, .slice none 0 0] 35 (0, 0)) := by rw [← hW0]; exact blk_at _ _ (by simp)
  obtain ⟨⟨a0, -⟩, ⟨a1, -⟩, a2, -⟩ := blk3 c0
  have H0 := Lib.hid (And.intro k0 (And.intro c0 c1))
  clear k0 c0 c1
  unfold lookV
  go_enter Try.func19, Try.ntmps19
  go_wp2_with fail
  refine (HC.out _).mono ?_
  rintro e w1 ⟨rfl, hk1⟩
  obtain ⟨V, hV⟩ : ∃ V, (w1.alloc (.cells #[.int .u8 F.r, .int .u8 F.g, .int .u8 F.b] 96)).alloc (.cells #[.int .u8 B.r, .int .u8 B.g, .int .u8 B.b] 96) = V := ⟨_, rfl⟩
  have kV : Kept (fun _ => False) w1 V := by rw [← hV]; exact ((Kept.refl _ _).alloc _).alloc _
  have v0 : V.heap[w1.heap.size]? = some (.cells #[.int .u8 F.r, .int .u8 F.g, .int .u8 F.b] 96 (0, 0)) := by rw [← hV]; exact blk_alloc (blk_new _ _) _
  have v1 : V.heap[w1.heap.size + 1]? = some (.cells #[.int .u8 B.r, .int .u8 B.g, .int .u8 B.b] 96 (0, 0)) := by rw [← hV]; exact blk_at _ _ (by simp)
  have H1 := Lib.hid (And.intro (H0.out.1.then (hk1.then kV)) (And.intro ((hk1.then kV).blk H0.out.2.1 id) (And.intro ((hk1.then kV).blk H0.out.2.2 id) (And.intro v0 (And.intro v1 hk1.size)))))
  clear hk1 kV v0 v1 a0 a1 a2
  go_wp2_with fail
  refine (HNEW.out _).mono ?_
  rintro e w2 ⟨g, rfl, hg, ho, hk2⟩
  obtain ⟨Y0, hY⟩ : ∃ Y, w2.alloc (.cells #[.int .i64 W, .int .i64 H, .slice (some ⟨g, 0, none⟩) n n] 35) = Y := ⟨_, rfl⟩
  have kY : Kept (fun _ => False) w2 Y0 := by rw [← hY]; exact (Kept.refl _ _).alloc _
  have y1 : Y0.heap[w2.heap.size]? = some (.cells #[.int .i64 W, .int .i64 H, .slice (some ⟨g, 0, none⟩) n n] 35 (0, 0)) := by rw [← hY]; exact blk_new _ _
  have kk := hk2.then kY
  have HI0 := Lib.hid (show RgI wd W H n g w2.heap.size w1.heap.size 0 fg bg fl F B (tab n (paintD t z K 0 0)) Y0 from ⟨by rw [HSTART.out]; exact ho.kept kY (fun _ _ => id), H1.out.1.then kk, kk.blk H1.out.2.1 id, kk.blk H1.out.2.2.1 id, kk.blk H1.out.2.2.2.1 id, kk.blk H1.out.2.2.2.2.1 id, y1⟩)
  have hsV : w1.heap.size + 1 < V.heap.size := lt_of_blk H1.out.2.2.2.2.1
  have hs1 : wd.heap.size + 1 < w1.heap.size := by have h1 := lt_of_blk H0.out.2.2; have h2 := H1.out.2.2.2.2.2; omega
  have HS := Lib.hid (And.intro (show wd.heap.size + 1 < g ∧ w1.heap.size + 1 < g by omega) (And.intro hs1 (And.intro (show g < w2.heap.size from ho.lt g rfl) (show w1.heap.size + 1 < w2.heap.size by have := hk2.size; omega))))
  clear hg ho hk2 kY y1 kk hsV hs1
  go_wp2
  go_loopg [14, 15, 16] H (fun gg yv _ _ wr => ∃ Y : Nat, H ≤ gg + Y ∧ Y ≤ H ∧ yv = .int .i64 Y ∧ RgI wd W H n g w2.heap.size w1.heap.size 0 fg bg fl F B (tab n (paintD t z K Y 0)) wr)
  case atStart => exact ⟨0, by omega, by omega, rfl, HI0.out⟩
  case round =>
    obtain ⟨Y, hgg, hYH, rfl, hinv⟩ := hrel
    by_cases hY1 : Y < H
    · have gy : decide (Y < H) = true := decide_eq_true hY1
      have gy' : decide ((Y : Int) < (H : Int)) = true := decide_eq_true (by omega)
      have HI := Lib.hid hinv
      obtain ⟨gko, hgo⟩ : ∃ x, x = gk := ⟨_, rfl⟩
      subst hgo
      have wY : IntKind.i64.wrap ((Y : Int) + 1) = (Y : Int) + 1 := IntWalk.i64_in _ (by have := HN.out; omega)
      clear hinv
      go_wp2
      go_loopg [15, 16] W (fun gg xv _ wr => ∃ X : Nat, W ≤ gg + X ∧ X ≤ W ∧ xv = .int .i64 X ∧ RgI wd W H n g w2.heap.size w1.heap.size 0 fg bg fl F B (tab n (paintD t z K Y X)) wr)
      case atStart => exact ⟨0, by omega, by omega, rfl, HI.out⟩
      case round =>
        obtain ⟨X, hgx, hXW', rfl, hinv⟩ := hrel
        by_cases hX1 : X < W
        · have gx : decide (X < W) = true := decide_eq_true hX1
          have gx' : decide ((X : Int) < (W : Int)) = true := decide_eq_true (by omega)
          have wX : IntKind.i64.wrap ((X : Int) + 1) = (X : Int) + 1 := IntWalk.i64_in _ (by have := HN.out; omega)
          have hPn := fit_idx hX1 hY1
          have hn4 : 4 * (Y * W + X) + 4 ≤ n := by have := HN.out.1; omega
          obtain ⟨⟨b0, -⟩, ⟨b1, -⟩, b2, -⟩ := blk3 hinv.2.2.2.2.2.1
          obtain ⟨KD, hKD⟩ : ∃ k, kindI r W H fl X Y = k := ⟨_, rfl⟩
          have HKIND := Lib.hid (fun wd' => show Calls Try.prog 50 #[.int .i64 r, .int .i64 W, .int .i64 H, .agg #[.int .i64 fg, .int .i64 bg, .int .i64 fl], .int .i64 X, .int .i64 Y] wd' fun e w' => e = .returned (.int .i64 KD) ∧ Kept (fun _ => False) wd' w' from by
            have h := HN.out
            rw [← hKD]
            exact kind_any r W H fg bg fl X Y wd' h.2.2.2 (by omega) (by omega) (by omega) (by omega))
          have hkk := HKK.out X Y hX1
          rw [hKD] at hkk
          have HHK := Lib.hid hkk
          have HP := Lib.hid (And.intro hX1 (And.intro hY1 hn4))
          have HI := Lib.hid hinv
          clear hinv hPn hKD hkk hn4
          go_wp2_with fail
          refine (HFB.out _).mono ?_; rintro e w3 ⟨rfl, hk3⟩
          obtain ⟨C, hC⟩ : ∃ C, w3.alloc (.cells #[.int .u8 B.r, .int .u8 B.g, .int .u8 B.b, .int .u8 255] 65) = C := ⟨_, rfl⟩
          have kC : Kept (fun _ => False) w3 C := by rw [← hC]; exact (Kept.refl _ _).alloc _
          have bC : C.heap[w3.heap.size]? = some (.cells #[.int .u8 B.r, .int .u8 B.g, .int .u8 B.b, .int .u8 255] 65 (0, 0)) := by rw [← hC]; exact blk_new _ _
          have HIC := Lib.hid (HI.out.kept (hk3.then kC))
          have HBC := Lib.hid bC
          have hz3 : w2.heap.size < w3.heap.size := by have h := lt_of_blk HI.out.2.2.2.2.2.2; have := hk3.size; omega
          obtain ⟨⟨a0, -⟩, ⟨a1, -⟩, a2, -⟩ := blk3 HIC.out.2.2.1
          clear hk3 kC bC b0 b1 b2
          go_wp2_with fail
          refine (HKIND.out _).mono ?_; rintro e w4 ⟨rfl, hk4⟩
          have HI4 := Lib.hid (HIC.out.kept hk4)
          have HB4 := Lib.hid (hk4.blk HBC.out id)
          clear hk4 a0 a1 a2
          by_cases hk1 : KD = 1
          · have gk1 : (KD == 1) = true := by simp [hk1]
            have hkk := HHK.out
            rw [if_pos hk1] at hkk
            have HST := Lib.hid (HSTEP.out X Y F.r F.g F.b HP.out.1 HP.out.2.1 hkk HP.out.2.2)
            clear hkk hk1
            obtain ⟨⟨f0, -⟩, ⟨f1, -⟩, f2, -⟩ := blk3 HI4.out.2.2.2.2.1
            go_wp2_with fail
            refine (HFF.out _).mono ?_; rintro e w5 ⟨rfl, hk5⟩
            obtain ⟨U1, U2, U3, U4, q1, q2, q3, q4, ⟨x0, x0'⟩, ⟨x1, x1'⟩, ⟨x2, x2'⟩, ⟨x3, x3'⟩, bU, kU⟩ := store4 (hk5.blk HB4.out id) (.int .u8 F.r) (.int .u8 F.g) (.int .u8 F.b) (.int .u8 255)
            have hiU := (HI4.out.kept hk5).fresh kU (by have := HS.out; omega) (by have := HS.out; omega) (by have := HS.out; omega) (by omega)
            have HIU := Lib.hid hiU
            obtain ⟨⟨d0, -⟩, ⟨d1, -⟩, d2, -⟩ := blk3 hiU.2.2.2.2.2.2
            obtain ⟨⟨m0, -⟩, ⟨m1, -⟩, ⟨m2, -⟩, m3, -⟩ := blk4 bU
            have HPUT := Lib.hid (rput_any W H X Y (tab n (paintD t z K Y X)) [] g n n U4 HP.out.1 HP.out.2.1 (by have := HN.out.2.2.1; omega) HN.out.1.symm hiU.1 (by have := HN.out.2.1; omega) (by have := HN.out.2.1; omega) F.r F.g F.b 255)
            rw [HST.out] at HPUT
            clear hk5 bU kU hiU f0 f1 f2
            go_wp2_with fail
            refine HPUT.out.mono ?_; rintro e w6 ⟨rfl, ho6, hk6⟩
            have HI6 := Lib.hid (HIU.out.put ho6 hk6 (by have := HS.out; omega) (by have := HS.out; omega) (by have := HS.out; omega))
            clear ho6 hk6 d0 d1 d2 m0 m1 m2 m3 q1 q2 q3 q4 x0 x0' x1 x1' x2 x2' x3 x3'
            go_wp2
            go_roundg (gk - 1)
            case rel => exact ⟨X + 1, by omega, by omega, by go_num, HI6.out⟩
            case measure => omega
          · have gk1 : (KD == 1) = false := by simp [hk1]
            have hkk := HHK.out
            rw [if_neg hk1] at hkk
            have HST := Lib.hid (HSTEP.out X Y B.r B.g B.b HP.out.1 HP.out.2.1 hkk HP.out.2.2)
            clear hkk hk1
            obtain ⟨⟨d0, -⟩, ⟨d1, -⟩, d2, -⟩ := blk3 HI4.out.2.2.2.2.2.2
            obtain ⟨⟨m0, -⟩, ⟨m1, -⟩, ⟨m2, -⟩, m3, -⟩ := blk4 HB4.out
            have HPUT := Lib.hid (rput_any W H X Y (tab n (paintD t z K Y X)) [] g n n w4 HP.out.1 HP.out.2.1 (by have := HN.out.2.2.1; omega) HN.out.1.symm HI4.out.1 (by have := HN.out.2.1; omega) (by have := HN.out.2.1; omega) B.r B.g B.b 255)
            rw [HST.out] at HPUT
            go_wp2_with fail
            refine HPUT.out.mono ?_; rintro e w6 ⟨rfl, ho6, hk6⟩
            have HI6 := Lib.hid (HI4.out.put ho6 hk6 (by have := HS.out; omega) (by have := HS.out; omega) (by have := HS.out; omega))
            clear ho6 hk6 d0 d1 d2 m0 m1 m2 m3
            go_wp2
            go_roundg (gk - 1)
            case rel => exact ⟨X + 1, by omega, by omega, by go_num, HI6.out⟩
            case measure => omega
        · obtain rfl : X = W := by omega
          have gx : decide (X < X) = false := decide_eq_false (by omega)
          have hrow := HROWS.out Y
          rw [hrow] at hinv
          have HI := Lib.hid hinv
          clear hinv hrow
          go_wp2
          go_roundg (gko - 1)
          case rel => exact ⟨Y + 1, by omega, by omega, by go_num, HI.out⟩
          case measure => omega
    · obtain rfl : Y = H := by omega
      have gy : decide (Y < Y) = false := decide_eq_false (by omega)
      have hend := HEND.out
      rw [hend] at hinv
      obtain ⟨⟨d0, -⟩, ⟨d1, -⟩, d2, -⟩ := blk3 hinv.2.2.2.2.2.2
      obtain ⟨U1, U2, U3, q1, q2, q3, ⟨x0, x0'⟩, ⟨x1, x1'⟩, ⟨x2, x2'⟩, bU, kU⟩ := store3 hinv.2.2.2.1 (.int .i64 W) (.int .i64 Y) (.slice (some ⟨g, 0, none⟩) n n)
      obtain ⟨⟨m0, -⟩, ⟨m1, -⟩, m2, -⟩ := blk3 bU
      have hO := hinv.1.kept kU (fun b hb hS => by have h9 : b = wd.heap.size + 1 := hS; have h8 : g = b := (by cases hb; rfl); have := HS.out; omega)
      have hK : Kept (fun _ => False) wd U3 := hinv.2.1.trans (kU.mono fun i _ hi => Or.inr (by have h9 : i = wd.heap.size + 1 := hi; omega))
      have HE := Lib.hid (And.intro hO hK)
      clear hinv hend bU kU hO hK
      go_wp2
      exact bodyPost_ret (v := .tuple #[.agg #[.int .i64 W, .int .i64 Y, .slice (some ⟨g, 0, none⟩) n n], .int .i64 0]) (by simp [results, Try.results19, go_sem, m0, m1, m2]) rfl ⟨g, rfl, by have := HS.out; omega, HE.out.1, HE.out.2⟩
end Go.Proofs.Ytdjgmhbfohbenaa
