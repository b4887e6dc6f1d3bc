/- What Prune's and Put's own functions say of a place. -/
import Derived.Test.YtgbflcmageipdaaSmall
namespace Go.Proofs.Ytgbflcmageipdaa
open Go.RowKit
set_option linter.unusedVariables false
set_option linter.unusedSimpArgs false
def pruneB (al : Bool) (fi : Int) (p : Pl) : Bool := (p.alt == al) && decide (IntKind.i64.wrap (p.line + p.rows) ≤ fi)
set_option maxRecDepth 100000 in
set_option maxHeartbeats 8000000 in
theorem pru_any (al : Bool) (fi : Int) (p : Pl) (wd : World) (x0 x1 : Nat) (h0 : wd.heap[x0]? = some (.cells #[.bool al] 4 (0, 0))) (h1 : wd.heap[x1]? = some (.cells #[.int .i64 fi] 2 (0, 0))) :
    Calls Try.prog 22 #[p.val, .pointer (some ⟨x0, 0, none⟩), .pointer (some ⟨x1, 0, none⟩)] wd fun e w' => e = .returned (.bool (pruneB al fi p)) ∧ Kept (fun _ => False) wd w' := by
  obtain ⟨W, hW⟩ : ∃ W, wd.alloc (.cells p.cs 34) = W := ⟨_, rfl⟩
  have hk : Kept (fun _ => False) wd W := by rw [← hW]; exact (Kept.refl _ _).alloc _
  have hb : W.heap[wd.heap.size]? = some (.cells p.cs 34 (0, 0)) := by rw [← hW]; exact blk_new wd _
  obtain ⟨u0, u1, u2, u3, u4, u5, u6, u7, u8, u9, u10, u11, u12, u13⟩ := blk14 hb
  obtain ⟨a0, -⟩ := blk1 (hk.blk h0 id)
  obtain ⟨a1, -⟩ := blk1 (hk.blk h1 id)
  obtain ⟨n1, hn1⟩ : ∃ x, IntKind.i64.wrap (p.line + p.rows) = x := ⟨_, rfl⟩
  unfold pruneB
  rw [hn1]
  have HK := Lib.hid hk
  obtain ⟨im, id, alt, line, col, rows, cols, x, y, w, h, dx, dy, z⟩ := p
  unfold Pl.cs at hW
  unfold Pl.val
  clear hk hb h0 h1
  simp only at *
  cases alt <;> cases al
  · show Calls Try.prog 22 _ wd fun e w' => e = .returned (.bool (decide (n1 ≤ fi))) ∧ Kept (fun _ => False) wd w'
    go_enter Try.func22, Try.ntmps22
    go_wp2
    go_ret
    exact ⟨rfl, HK.out⟩
  · show Calls Try.prog 22 _ wd fun e w' => e = .returned (.bool false) ∧ Kept (fun _ => False) wd w'
    go_enter Try.func22, Try.ntmps22
    go_wp2
    go_ret
    exact ⟨rfl, HK.out⟩
  · show Calls Try.prog 22 _ wd fun e w' => e = .returned (.bool false) ∧ Kept (fun _ => False) wd w'
    go_enter Try.func22, Try.ntmps22
    go_wp2
    go_ret
    exact ⟨rfl, HK.out⟩
  · show Calls Try.prog 22 _ wd fun e w' => e = .returned (.bool (decide (n1 ≤ fi))) ∧ Kept (fun _ => False) wd w'
    go_enter Try.func22, Try.ntmps22
    go_wp2
    go_ret
    exact ⟨rfl, HK.out⟩
def like (p o : Pl) : Pl := { p with im := o.im, id := o.id }
def putB (p o : Pl) : Bool := (p.id != 0) && eqB (like p o) p
set_option maxRecDepth 100000 in
set_option maxHeartbeats 8000000 in
theorem put_any (p o : Pl) (wd : World) (x0 : Nat) (h0 : wd.heap[x0]? = some (.cells p.cs 34 (0, 0))) :
    Calls Try.prog 18 #[o.val, .pointer (some ⟨x0, 0, none⟩)] wd fun e w' => e = .returned (.bool (putB p o)) ∧ Kept (fun _ => False) wd w' := by
  obtain ⟨q, hq⟩ : ∃ q, wd.heap.size = q := ⟨_, rfl⟩
  obtain ⟨W, hW⟩ : ∃ W, wd.alloc (.cells o.cs 34) = W := ⟨_, rfl⟩
  have hk : Kept (fun _ => False) wd W := by rw [← hW]; exact (Kept.refl _ _).alloc _
  have hb : W.heap[q]? = some (.cells o.cs 34 (0, 0)) := by rw [← hW, ← hq]; exact blk_new wd _
  have hz : W.heap.size = q + 1 := by rw [← hW, ← hq]; simp
  obtain ⟨V, hV⟩ : ∃ V, W.alloc (.cells p.cs 34) = V := ⟨_, rfl⟩
  have hkV : Kept (fun _ => False) W V := by rw [← hV]; exact (Kept.refl _ _).alloc _
  have hbV : V.heap[q + 1]? = some (.cells p.cs 34 (0, 0)) := by rw [← hV, ← hz]; exact blk_new W _
  obtain ⟨V1, hV1⟩ : ∃ V1, (V.setCell ⟨q + 1, 0, none⟩ (.int .i64 o.im)).drew = V1 := ⟨_, rfl⟩
  obtain ⟨V2, hV2⟩ : ∃ V2, V1.setCell ⟨q + 1, 1, none⟩ (.int .i64 o.id) = V2 := ⟨_, rfl⟩
  have hb1 : V1.heap[q + 1]? = some (.cells ({ p with im := o.im } : Pl).cs 34 (0, 0)) := by rw [← hV1]; exact ((Kept.refl (fun _ => False) _).drew).blk (blk_set hbV 0 _) id
  have hb2 : V2.heap[q + 1]? = some (.cells (like p o).cs 34 (0, 0)) := by rw [← hV2]; exact blk_set hb1 1 _
  have hk2 : Kept (fun _ => False) wd V2 := by rw [← hV2, ← hV1]; exact (((hk.then hkV).setCell (p := ⟨q + 1, 0, none⟩) (.inr (by show _ ≤ q + 1; omega)) _).drew).setCell (p := ⟨q + 1, 1, none⟩) (.inr (by show _ ≤ q + 1; omega)) _
  have hl0 := lt_of_blk h0
  obtain ⟨a0, a1, a2, a3, a4, a5, a6, a7, a8, a9, a10, a11, a12, a13⟩ := blk14 (hk.blk h0 id)
  obtain ⟨u0, u1, -⟩ := blk14 (hkV.blk hb id)
  obtain ⟨v0, v1, -⟩ := blk14 hbV
  obtain ⟨f0, f1⟩ : V.frozen? ⟨q + 1, 0, none⟩ = false ∧ V1.frozen? ⟨q + 1, 1, none⟩ = false := ⟨blk_free hbV 0, blk_free hb1 1⟩
  obtain ⟨-, v1', -⟩ := blk14 hb1
  obtain ⟨l0, l1, l2, l3, l4, l5, l6, l7, l8, l9, l10, l11, l12, l13⟩ := blk14 hb2
  obtain ⟨b0, b1, b2, b3, b4, b5, b6, b7, b8, b9, b10, b11, b12, b13⟩ := blk14 (hk2.blk h0 id)
  obtain ⟨u0', u1', -⟩ := blk14 (show V1.heap[q]? = some (.cells o.cs 34 (0, 0)) from by rw [← hV1]; exact (((Kept.refl (fun i => i = q + 1) V).setCell (p := ⟨q + 1, 0, none⟩) (.inl rfl) _).drew).blk (hkV.blk hb id) (by show ¬ q = q + 1; omega))
  have he := run_eqPl (like p o) p
  have HK := Lib.hid hk2
  obtain ⟨B, hB⟩ : ∃ B, eqB (like p o) p = B := ⟨_, rfl⟩
  rw [hB] at he
  unfold Pl.val at he ⊢
  unfold Pl.cs at hW hV
  clear hk hkV hb hbV hb1 hb2 hk2 hl0 h0
  unfold putB
  rw [hB]
  cases hid0 : (p.id != 0) with
  | true =>
    show Calls Try.prog 18 _ wd fun e w' => e = .returned (.bool B) ∧ Kept (fun _ => False) wd w'
    go_enter Try.func18, Try.ntmps18
    go_wp2
    go_region
    all_goals go_wp2
    all_goals go_ret
    all_goals exact ⟨rfl, HK.out⟩
  | false =>
    show Calls Try.prog 18 _ wd fun e w' => e = .returned (.bool false) ∧ Kept (fun _ => False) wd w'
    go_enter Try.func18, Try.ntmps18
    go_wp2
    go_region
    all_goals go_wp2
    all_goals go_ret
    all_goals exact ⟨rfl, HK.out⟩
end Go.Proofs.Ytgbflcmageipdaa
