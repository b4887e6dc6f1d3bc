/- What Delete's own function says of a place. -/
import Derived.Test.YtgbflcmageipdaaMt
namespace Go.Proofs.Ytgbflcmageipdaa
open Go.RowKit
set_option linter.unusedVariables false
set_option linter.unusedSimpArgs false
set_option maxRecDepth 100000 in
set_option maxHeartbeats 8000000 in
theorem delc_any (a : Ask) (p : Pl) (v : Vw) (wd : World) (x0 x1 : Nat) (h0 : wd.heap[x0]? = some (.cells a.cs 24 (0, 0))) (h1 : wd.heap[x1]? = some (.cells v.cs 26 (0, 0))) :
    Calls Try.prog 20 #[p.val, .pointer (some ⟨x0, 0, none⟩), .pointer (some ⟨x1, 0, none⟩)] wd fun e w' => e = .returned (.bool (matchB a p v)) ∧ Kept (fun _ => False) wd w' := by
  obtain ⟨W, hW⟩ : ∃ W, wd.alloc (.cells p.cs 34) = W := ⟨_, rfl⟩
  have hk : Kept (fun _ => False) wd W := by rw [← hW]; exact (Kept.refl _ _).alloc _
  have hb : W.heap[wd.heap.size]? = some (.cells p.cs 34 (0, 0)) := by rw [← hW]; exact blk_new wd _
  obtain ⟨u0, u1, u2, u3, u4, u5, u6, u7, u8, u9, u10, u11, u12, u13⟩ := blk14 hb
  obtain ⟨y0, y1, y2, y3, y4, y5⟩ := blkA (hk.blk h0 id)
  obtain ⟨x0', x1', x2', x3', x4', x5'⟩ := blkV (hk.blk h1 id)
  have HM := Lib.hid (match_any a p v W)
  have HK := Lib.hid hk
  obtain ⟨B, hB⟩ : ∃ B, matchB a p v = B := ⟨_, rfl⟩
  rw [hB] at HM ⊢
  unfold Ask.val Pl.val Vw.val at HM
  unfold Pl.cs at hW
  unfold Pl.val
  clear hk hb h0 h1 hB
  go_enter Try.func20, Try.ntmps20
  go_wp2_with fail
  refine HM.out.mono ?_
  rintro e w2 ⟨rfl, hk2⟩
  have H2 := Lib.hid (HK.out.then hk2)
  clear hk2
  go_wp2
  go_ret
  exact ⟨rfl, H2.out⟩
end Go.Proofs.Ytgbflcmageipdaa
