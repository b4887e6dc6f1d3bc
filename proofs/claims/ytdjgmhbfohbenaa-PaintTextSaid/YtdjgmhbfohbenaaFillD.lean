/- One colour laid on a part of a matrix, in its place. -/
import Derived.Test.YtdjgmhbfohbenaaCutP
import Derived.Test.YtdjgmhbfohbenaaIn
import Derived.Deep.DeepCutAuto
namespace Go.Proofs.Ytdjgmhbfohbenaa
open Go.RowKit Go.Sort
set_option linter.unusedVariables false
set_option linter.unusedSimpArgs false
/-- Where a part lies. -/
def fspot (W H : Nat) (x y cw ch : Int) : Spot := ⟨W, 0, 0, 0, (max x 0).toNat, (min (x + cw) W).toNat, (max y 0).toNat, (min (y + ch) H).toNat⟩
def fillP (W H : Nat) (x y cw ch : Int) (c0 c1 c2 c3 : Int) (n : Nat) (p : List Int) : List Int :=
  tab n (paintF (fspot W H x y cw ch) p (fun _ k => [c0, c1, c2, c3].getD k 0))
theorem fillP_length (W H : Nat) (x y cw ch : Int) (c0 c1 c2 c3 : Int) (n : Nat) (p : List Int) : (fillP W H x y cw ch c0 c1 c2 c3 n p).length = n := tab_length _ _
/-- What holds of memory while a part is filled. -/
def FilInv (w : World) (W H : Nat) (av : Option Addr) (n cv : Nat) (c0 c1 c2 c3 : Int) (L : List Int) (wr : World) : Prop :=
  Own .u8 5 wr (.slice av n cv) L ∧ Kept (fun i => (Value.slice av n cv).ownBlock = some i) w wr ∧ wr.heap[w.heap.size]? = some (.cells #[.int .i64 W, .int .i64 H, .slice av n cv] 31 (0, 0)) ∧ wr.heap[w.heap.size + 1]? = some (.cells #[.int .u8 c0, .int .u8 c1, .int .u8 c2, .int .u8 c3] 66 (0, 0))
theorem FilInv.kept {w : World} {W H : Nat} {av : Option Addr} {n cv : Nat} {c0 c1 c2 c3 : Int} {L : List Int} {wr w2 : World} (h : FilInv w W H av n cv c0 c1 c2 c3 L wr) (hk : Kept (fun _ => False) wr w2) : FilInv w W H av n cv c0 c1 c2 c3 L w2 :=
  ⟨h.1.kept hk (fun _ _ => id), h.2.1.then (hk.mono fun _ _ h => h.elim), hk.blk h.2.2.1 id, hk.blk h.2.2.2 id⟩
theorem FilInv.put {w : World} {W H : Nat} {av : Option Addr} {n cv : Nat} {c0 c1 c2 c3 : Int} {L L' : List Int} {wr w2 : World} {g : Nat} (h : FilInv w W H av n cv c0 c1 c2 c3 L wr) (ho : Own .u8 5 w2 (.slice av n cv) L') (hk : Kept (fun i => i = g) wr w2) (hg : (Value.slice av n cv).ownBlock = some g) (hgw : g < w.heap.size) : FilInv w W H av n cv c0 c1 c2 c3 L' w2 :=
  ⟨ho, h.2.1.then (hk.mono fun i _ hi => by rw [show i = g from hi]; exact hg), hk.blk h.2.2.1 (fun (h : w.heap.size = g) => by omega), hk.blk h.2.2.2 (fun (h : w.heap.size + 1 = g) => by omega)⟩
def Mid (x : Int) : Prop := -1099511627776 ≤ x ∧ x ≤ 1099511627776
set_option maxRecDepth 100000 in
set_option maxHeartbeats 8000000 in
theorem filD_any (W H : Nat) (x y cw ch : Int) (p : List Int) (av : Option Addr) (n cv : Nat) (c0 c1 c2 c3 : Int) (w : World) (hxx : Mid x) (hyy : Mid y) (hcw : Mid cw) (hch : Mid ch)
    (hW : W ≤ 16384) (hH : H ≤ 16384) (hN : n = 4 * (W * H)) (hn2 : n ≤ 67108864) (ho : Own .u8 5 w (.slice av n cv) p) :
    Calls Try.prog 46 #[.agg #[.int .i64 W, .int .i64 H, .slice av n cv], .int .i64 x, .int .i64 y, .int .i64 cw, .int .i64 ch, .agg #[.int .u8 c0, .int .u8 c1, .int .u8 c2, .int .u8 c3]] w fun e w' => e = .returned (.tuple #[]) ∧ Own .u8 5 w' (.slice av n cv) (fillP W H x y cw ch c0 c1 c2 c3 n p) ∧ Kept (fun i => (Value.slice av n cv).ownBlock = some i) w w' := by
  have hpl : p.length = n := by obtain ⟨_, _, hv, -⟩ := ho.shape; cases hv; rfl
  have hF := ho.lt
  unfold Mid at hxx hyy hcw hch
  obtain ⟨x0, hx0⟩ : ∃ k : Nat, max x 0 = (k : Int) := ⟨(max x 0).toNat, by omega⟩
  obtain ⟨y0, hy0⟩ : ∃ k : Nat, max y 0 = (k : Int) := ⟨(max y 0).toNat, by omega⟩
  obtain ⟨x1, hx1⟩ : ∃ k : Int, min (x + cw) W = k := ⟨_, rfl⟩
  obtain ⟨y1, hy1⟩ : ∃ k : Int, min (y + ch) H = k := ⟨_, rfl⟩
  have wxc : IntKind.i64.wrap (x + cw) = x + cw := IntWalk.i64_in _ (by omega)
  have wyc : IntKind.i64.wrap (y + ch) = y + ch := IntWalk.i64_in _ (by omega)
  obtain ⟨t, ht⟩ : ∃ t : Spot, (⟨W, 0, 0, 0, x0, x1.toNat, y0, y1.toNat⟩ : Spot) = t := ⟨_, rfl⟩
  obtain ⟨K, hK⟩ : ∃ K : Nat → Nat → Int, (fun _ k => [c0, c1, c2, c3].getD k 0) = K := ⟨_, rfl⟩
  have hE : fillP W H x y cw ch c0 c1 c2 c3 n p = tab n (paintF t p K) := by unfold fillP fspot; rw [hx0, hx1, hy0, hy1]; simp only [Int.toNat_natCast]; rw [ht, hK]
  rw [hE]
  have HSTART := Lib.hid (show tab n (paintD t p K y0 x0) = p from by have h := paintD_start t p K n hpl; rw [← ht] at h ⊢; exact h)
  have HEND := Lib.hid (fun (X Y : Nat) (h : y1 ≤ (Y : Int)) => show tab n (paintD t p K Y X) = tab n (paintF t p K) from paintD_end t p K n X Y (by rw [← ht]; simp only; omega))
  have HROWS := Lib.hid (fun (X Y : Nat) (h : x1 ≤ (X : Int)) => show tab n (paintD t p K Y X) = tab n (paintD t p K (Y + 1) x0) from by have h := paintD_row t p K n X Y (by rw [← ht]; simp only; omega); rw [← ht] at h ⊢; exact h)
  have HSTEP := Lib.hid (fun (X Y : Nat) (hXW : X < W) (hX0 : x0 ≤ X) (hX : (X : Int) < x1) (hY0 : y0 ≤ Y) (hY : (Y : Int) < y1) (hn : 4 * (Y * W + X) + 4 ≤ n) => show spl (tab n (paintD t p K Y X)) (4 * (Y * W + X)) [c0, c1, c2, c3] = tab n (paintD t p K Y (X + 1)) from by
    have h := paintD_step t p K n X Y (by rw [← ht]; exact hXW) (by rw [← ht]; exact hX0) (by rw [← ht]; simp only; omega) (by rw [← ht]; exact hY0) (by rw [← ht]; simp only; omega) (by rw [← ht]; exact hn) [c0, c1, c2, c3] rfl (fun k _ => by rw [← hK])
    rw [← ht] at h ⊢
    exact h)
  have hx1W : x1 ≤ W := by omega
  have hy1H : y1 ≤ H := by omega
  have HPL := Lib.hid hpl
  have HN := Lib.hid hN
  have HF := Lib.hid hF
  obtain ⟨V, hV⟩ : ∃ V, (w.alloc (.cells #[.int .i64 W, .int .i64 H, .slice av n cv] 31)).alloc (.cells #[.int .u8 c0, .int .u8 c1, .int .u8 c2, .int .u8 c3] 66) = V := ⟨_, rfl⟩
  have kV : Kept (fun _ => False) w V := by rw [← hV]; exact ((Kept.refl _ w).alloc _).alloc _
  have b0 : V.heap[w.heap.size]? = some (.cells #[.int .i64 W, .int .i64 H, .slice av n cv] 31 (0, 0)) := by rw [← hV]; exact blk_alloc (blk_new _ _) _
  have b1 : V.heap[w.heap.size + 1]? = some (.cells #[.int .u8 c0, .int .u8 c1, .int .u8 c2, .int .u8 c3] 66 (0, 0)) := by rw [← hV]; exact blk_at _ _ (by simp)
  have HINV := Lib.hid (show FilInv w W H av n cv c0 c1 c2 c3 (tab n (paintD t p K y0 x0)) V from ⟨by rw [HSTART.out]; exact ho.kept kV (fun _ _ => id), kV.mono (fun _ _ h => h.elim), b0, b1⟩)
  have HX0 := Lib.hid (And.intro hx0 (And.intro hy0 (And.intro hx1 hy1)))
  have mx := @Lib.hid _ hx0
  have hmx : (if x < 0 then (0 : Int) else x) = (x0 : Int) := by split <;> omega
  have hmy : (if y < 0 then (0 : Int) else y) = (y0 : Int) := by split <;> omega
  have hmx1 : (if (W : Int) < x + cw then (W : Int) else x + cw) = x1 := by split <;> omega
  have hmy1 : (if (H : Int) < y + ch then (H : Int) else y + ch) = y1 := by split <;> omega
  clear b0 b1 kV hE ht hK hpl hN ho hF hx0 hy0 hx1 hy1
  go_enter Try.func46, Try.ntmps46
  go_wp2
  go_loopg [12, 13] y1.toNat (fun gg yv _ wr => ∃ Y : Nat, y0 ≤ Y ∧ y1.toNat ≤ gg + Y ∧ yv = .int .i64 Y ∧ FilInv w W H av n cv c0 c1 c2 c3 (tab n (paintD t p K Y x0)) wr)
  case atStart => exact ⟨y0, by omega, by omega, rfl, HINV.out⟩
  case round =>
    obtain ⟨Y, hY0, hgg, rfl, hinv⟩ := hrel
    obtain ⟨⟨a0, -⟩, ⟨a1, -⟩, a2, -⟩ := blk3 hinv.2.2.1
    by_cases hY1 : (Y : Int) < y1
    · have gy : decide ((Y : Int) < y1) = true := decide_eq_true hY1
      have HI := Lib.hid hinv
      obtain ⟨gko, hgo⟩ : ∃ x, x = gk := ⟨_, rfl⟩
      subst hgo
      have wY : IntKind.i64.wrap ((Y : Int) + 1) = (Y : Int) + 1 := IntWalk.i64_in _ (by omega)
      clear hinv
      go_wp2
      go_loopg [13] x1.toNat (fun gg xv wr => ∃ X : Nat, x0 ≤ X ∧ x1.toNat ≤ gg + X ∧ xv = .int .i64 X ∧ FilInv w W H av n cv c0 c1 c2 c3 (tab n (paintD t p K Y X)) wr)
      case atStart => exact ⟨x0, by omega, by omega, rfl, HI.out⟩
      case round =>
        clear a0 a1 a2
        obtain ⟨X, hX0, hgx, rfl, hinv⟩ := hrel
        obtain ⟨⟨a0, -⟩, ⟨a1, -⟩, a2, -⟩ := blk3 hinv.2.2.1
        by_cases hX1 : (X : Int) < x1
        · have gx : decide ((X : Int) < x1) = true := decide_eq_true hX1
          have hXW : X < W := by omega
          have hYH : Y < H := by omega
          have hPn := fit_idx hXW hYH
          have hn4 : 4 * (Y * W + X) + 4 ≤ n := by have := HN.out; omega
          have hWH : W * H ≤ 67108864 := by have := HN.out; omega
          obtain ⟨g, rfl⟩ := hinv.1.form (by omega)
          have hgF := HF.out g rfl
          have HST := Lib.hid (HSTEP.out X Y hXW hX0 hX1 hY0 hY1 hn4)
          have wX : IntKind.i64.wrap ((X : Int) + 1) = (X : Int) + 1 := IntWalk.i64_in _ (by omega)
          have hcv : n ≤ cv ∧ cv ≤ 9223372036854775807 := by obtain ⟨_, _, hv, -, h1, h2, -⟩ := hinv.1.shape; rw [tab_length] at hv h1; cases hv; exact ⟨h1, by simpa [maxLen] using h2⟩
          have HI := Lib.hid hinv
          obtain ⟨yW, hyW⟩ : ∃ q, Y * W = q := ⟨_, rfl⟩
          rw [hyW] at hPn hn4 HST
          have v5 : (Y : Int) * (W : Int) = (yW : Int) := by rw [← hyW]; simp
          clear hinv hPn hyW hWH
          go_wp2
          have HI2 := HI
          have HS18 := Lib.hid (show SlAt .u8 wr (some ⟨w.heap.size + 1, 0, none⟩) 4 [c0, c1, c2, c3] from slAt_blk HI2.out.2.2.2 rfl rfl)
          have l2 : 4 * ((yW : Int) + (X : Int)) ≤ (n : Int) := by omega
          have l3 : 4 * ((yW : Int) + (X : Int)) ≤ (cv : Int) := by omega
          have t1 : (4 * ((yW : Int) + (X : Int))).toNat = 4 * (yW + X) := by omega
          have w1' : IntKind.i64.wrap (yW : Int) = (yW : Int) := IntWalk.i64_in _ (by omega)
          have w2' : IntKind.i64.wrap ((yW : Int) + (X : Int)) = (yW : Int) + (X : Int) := IntWalk.i64_in _ (by omega)
          have w3' : IntKind.i64.wrap (4 * ((yW : Int) + (X : Int))) = 4 * ((yW : Int) + (X : Int)) := IntWalk.i64_in _ (by omega)
          have l1 : 0 ≤ 4 * ((yW : Int) + (X : Int)) := by omega
          have hcap : ¬ (cv = 4 * (yW + X)) := by omega
          have hmin := Lib.hid (show 4 = Nat.min 4 (n - 4 * (yW + X)) from (Nat.min_eq_left (show 4 ≤ n - 4 * (yW + X) by omega)).symm)
          go_still_tail 11, (by kernel_rfl)
          clear l1 l2 l3 t1 w1' w2' w3'
          change wpList _ _ _ _ _ wr.drew
          refine wpList_cp rfl (.tmp 47) (.tmp 48) 29 29 rfl 5 .u8 Try.underlying29 Try.size5 g n cv (4 * (yW + X)) _ _ _ rfl (HI2.out.1.kept ((Kept.refl (fun _ => False) wr).drew) (fun _ _ => id)) (some ⟨w.heap.size + 1, 0, none⟩) 4 _ _ rfl (HS18.out.up ((Kept.refl (fun _ => False) wr).drew)) 4 hmin.out (by omega) ?_
          intro w4 ho4 hk4
          rw [show ([c0, c1, c2, c3] : List Int).take 4 = [c0, c1, c2, c3] from rfl, HST.out] at ho4
          have HI4 := Lib.hid ((HI2.out.kept (Kept.refl (fun _ => False) wr).drew).put ho4 hk4 rfl hgF)
          clear ho4 hk4
          go_wp2
          go_roundg (gk - 1)
          case rel => exact ⟨X + 1, by omega, by omega, by go_num, HI4.out⟩
          case measure => omega
        · have gx : decide ((X : Int) < x1) = false := decide_eq_false hX1
          have hrow := HROWS.out X Y (by omega)
          rw [hrow] at hinv
          have HI := Lib.hid hinv
          clear hinv hrow
          go_wp2
          go_roundg (gko - 1)
          case rel => exact ⟨Y + 1, by omega, by omega, by go_num, HI.out⟩
          case measure => omega
    · have gy : decide ((Y : Int) < y1) = false := decide_eq_false hY1
      have hend := HEND.out x0 Y (by omega)
      rw [hend] at hinv
      have HI := Lib.hid hinv
      clear hinv hend
      go_wp2
      go_end0
      exact ⟨rfl, HI.out.1, HI.out.2.1⟩
end Go.Proofs.Ytdjgmhbfohbenaa
