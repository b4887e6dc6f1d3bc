/- Several texts in one: Mat, LFits, Pix, Twin, DrawP, Put, RAt, RDraw. -/
import Derived.Test.YtmplpcmcbliadaaGreatDoorBx0
import Derived.Lib.QuietBelow
import Derived.Deep.LoopGhost
import Derived.StillTailTactics
import Derived.Deep.RegionHeld3
import Derived.WalkLawsBesides
import Derived.WalkSpells
set_option linter.unusedVariables false
set_option linter.unusedSimpArgs false
namespace Go.Proofs.YtmplpcmcbliadaaGreatDoor
open Go.RowKit Go.Sort
theorem SlAt.up {k : IntKind} {w w' : World} {a : Option Addr} {n : Nat} {xs : List Int} (h : SlAt k w a n xs) (hk : Kept (fun _ => False) w w') : SlAt k w' a n xs := h.kept hk (fun _ _ _ _ h => h)
end Go.Proofs.YtmplpcmcbliadaaGreatDoor
namespace Go.Proofs.YtmplpcmcbliadaaGreatDoor
open Go.RowKit
theorem tab_set {n : Nat} {f : Nat -> Int} {i : Nat} (h : i < n) (v : Int) : (tab n f).set i v = tab n (fun j => if j = i then v else f j) := by
 refine list_ext (by simp [tab_length]) (fun j hj => ?_)
 simp only [List.length_set, tab_length] at hj
 rw [getD_set (by rw [tab_length]; exact h), tab_get (f := f) hj, tab_get (f := fun j => if j = i then v else f j) hj]
theorem getD_byte {xs : List Int} (h : IsBytes xs) (j : Nat) : 0 <= xs.getD j 0 /\ xs.getD j 0 < 256 := by
 by_cases hj : j < xs.length
 ·rw [List.getD_eq_getElem?_getD, List.getElem?_eq_getElem hj]; exact h _ (List.getElem_mem _)
 ·rw [List.getD_eq_getElem?_getD, List.getElem?_eq_none (by omega)]; simp
theorem spl_tab {n o : Nat} {f : Nat -> Int} {ys : List Int} (h : o + ys.length <= n) : spl (tab n f) o ys = tab n (fun j => if o <= j /\ j < o + ys.length then ys.getD (j - o) 0 else f j) := by
 refine list_ext (by rw [spl_length (by rw [tab_length]; exact h), tab_length, tab_length]) (fun j hj => ?_)
 rw [spl_length (by rw [tab_length]; exact h), tab_length] at hj
 rw [spl_get (by rw [tab_length]; exact h), tab_get (f := fun j => if o <= j /\ j < o + ys.length then ys.getD (j - o) 0 else f j) hj, tab_get (f := f) hj]
theorem fit_idx {W H x y : Nat} (hx : x < W) (hy : y < H) : y * W + x < W * H := by
 have : (y + 1) * W <= H * W := Nat.mul_le_mul_right _ hy
 rw [Nat.mul_comm H W] at this
 have h2 : (y + 1) * W = y * W + W := Nat.succ_mul y W
 omega
end Go.Proofs.YtmplpcmcbliadaaGreatDoor
namespace Go.Proofs.YtmplpcmcbliadaaGreatDoor
open Go.RowKit Go.Sort
theorem blk4 {w : World} {b : Nat} {x y z u : Value} {t : TypeId} (h : w.heap[b]? = some (.cells #[x, y, z, u] t (0, 0))) :
  (w.cell? ⟨b, 0, none⟩ = some x /\ w.frozen? ⟨b, 0, none⟩ = false) /\ (w.cell? ⟨b, 1, none⟩ = some y /\ w.frozen? ⟨b, 1, none⟩ = false) /\ (w.cell? ⟨b, 2, none⟩ = some z /\ w.frozen? ⟨b, 2, none⟩ = false) /\ (w.cell? ⟨b, 3, none⟩ = some u /\ w.frozen? ⟨b, 3, none⟩ = false) :=
 ⟨⟨blk_cell h 0, blk_free h 0⟩, ⟨blk_cell h 1, blk_free h 1⟩, ⟨blk_cell h 2, blk_free h 2⟩, blk_cell h 3, blk_free h 3⟩
theorem store4 {w : World} {p : Nat} {x' y' z' u' : Value} {T : TypeId} (h : w.heap[p]? = some (.cells #[x', y', z', u'] T (0, 0))) (x y z u : Value) :
  ∃ V1 V2 V3 V4, w.setCell ⟨p, 0, none⟩ x = V1 /\ V1.setCell ⟨p, 1, none⟩ y = V2 /\ V2.setCell ⟨p, 2, none⟩ z = V3 /\ V3.setCell ⟨p, 3, none⟩ u = V4 /\ (w.cell? ⟨p, 0, none⟩ = some x' /\ w.frozen? ⟨p, 0, none⟩ = false) /\ (V1.cell? ⟨p, 1, none⟩ = some y' /\ V1.frozen? ⟨p, 1, none⟩ = false) /\
   (V2.cell? ⟨p, 2, none⟩ = some z' /\ V2.frozen? ⟨p, 2, none⟩ = false) /\ (V3.cell? ⟨p, 3, none⟩ = some u' /\ V3.frozen? ⟨p, 3, none⟩ = false) /\ V4.heap[p]? = some (.cells #[x, y, z, u] T (0, 0)) /\ Kept (· = p) w V4 := by
 refine ⟨_, _, _, _, rfl, rfl, rfl, rfl, ⟨blk_cell h 0, blk_free h 0⟩, ⟨?_, ?_⟩, ⟨?_, ?_⟩, ⟨?_, ?_⟩, ?_, ?_⟩
 ·exact blk_cell (blk_set h 0 _) 1
 ·exact blk_free (blk_set h 0 _) 1
 ·exact blk_cell (blk_set (blk_set h 0 _) 1 _) 2
 ·exact blk_free (blk_set (blk_set h 0 _) 1 _) 2
 ·exact blk_cell (blk_set (blk_set (blk_set h 0 _) 1 _) 2 _) 3
 ·exact blk_free (blk_set (blk_set (blk_set h 0 _) 1 _) 2 _) 3
 ·exact blk_set (blk_set (blk_set (blk_set h 0 _) 1 _) 2 _) 3 _
 ·exact ((((Kept.refl (fun i => i = p) w).setCell (p := ⟨p, 0, none⟩) (.inl rfl) x).setCell (p := ⟨p, 1, none⟩) (.inl rfl) y).setCell (p := ⟨p, 2, none⟩) (.inl rfl) z).setCell (p := ⟨p, 3, none⟩) (.inl rfl) u
def Made (w : World) (p : List Int) (v : Value) (w' : World) : Prop := Own .u8 5 w' v p /\ Kept (fun _ => False) w w' /\ ∀ b, v.ownBlock = some b -> w.heap.size <= b
theorem Own.retag {k : IntKind} {e : TypeId} {w : World} {v : Value} {xs ys : List Int} (h : Own k e w v xs) (hy : ys = xs) : Own k e w v ys := hy ▸ h
theorem Made.kept {w w' w2 : World} {p : List Int} {v : Value} (h : Made w p v w') (hk : Kept (fun i => i < w.heap.size) w' w2) (hk2 : Kept (fun _ => False) w w2) : Made w p v w2 :=
 ⟨h.1.kept hk (fun b hb hS => by have := h.2.2 b hb; have h9 : b < w.heap.size := hS; omega), hk2, h.2.2⟩
structure Spot where
 W : Nat
 SW : Nat
 x : Int
 y : Int
 x0 : Nat
 x1 : Nat
 y0 : Nat
 y1 : Nat
def Spot.inside (t : Spot) (P : Nat) : Prop := t.x0 <= P % t.W /\ P % t.W < t.x1 /\ t.y0 <= P / t.W /\ P / t.W < t.y1
instance (t : Spot) (P : Nat) : Decidable (t.inside P) := by unfold Spot.inside; exact inferInstance
def Spot.src (t : Spot) (P : Nat) : Nat := (((P / t.W : Nat) : Int) - t.y).toNat * t.SW + (((P % t.W : Nat) : Int) - t.x).toNat
def Spot.done (t : Spot) (Y X P : Nat) : Prop := P / t.W < Y \/ (P / t.W = Y /\ P % t.W < X)
instance (t : Spot) (Y X P : Nat) : Decidable (t.done Y X P) := by unfold Spot.done; exact inferInstance
theorem pos_of {W x y : Nat} (hx : x < W) : (y * W + x) / W = y /\ (y * W + x) % W = x := by
 have hW : 0 < W := by omega
 exact ⟨by rw [Nat.add_comm, Nat.mul_comm, Nat.add_mul_div_left _ _ hW, Nat.div_eq_of_lt hx]; omega, by rw [Nat.add_comm, Nat.mul_comm, Nat.add_mul_mod_self_left, Nat.mod_eq_of_lt hx]⟩
theorem unpos {W P : Nat} {Y X : Nat} (h1 : P / W = Y) (h2 : P % W = X) : P = Y * W + X := by
 rw [<- h1, <- h2, Nat.mul_comm]; exact (Nat.div_add_mod P W).symm
theorem Own.form {k : IntKind} {e : TypeId} {w : World} {a : Option Addr} {n c : Nat} {xs : List Int} (h : Own k e w (.slice a n c) xs) (h0 : 0 < n) : ∃ g, a = some ⟨g, 0, none⟩ := by
 obtain ⟨h1, h2⟩ := h
 rcases h2 with ⟨h3, h4⟩ | ⟨g', cap', cur, h3, -⟩
 ·cases h3; omega
 ·cases h3; exact ⟨g', rfl⟩
def DrawInv (w : World) (P9 T : Nat) (W H SW SH : Nat) (sa : Option Addr) (sn scap : Nat) (av : Option Addr) (n cv : Nat) (L : List Int) (wr : World) : Prop :=
 Own .u8 5 wr (.slice av n cv) L /\ Kept (fun _ => False) w wr /\ wr.heap[w.heap.size + 1]? = some (.cells #[.int .i64 SW, .int .i64 SH, .slice sa sn scap] T (0, 0)) /\ wr.heap[w.heap.size + 1 + 1]? = some (.cells #[.int .i64 0, .int .i64 0, .slice none 0 0] T (0, 0)) /\ wr.heap[P9]? = some (.cells #[.int .i64 W, .int .i64 H, .slice av n cv] T (0, 0))
theorem DrawInv.kept {w : World} {P9 T W H SW SH : Nat} {sa : Option Addr} {sn scap : Nat} {av : Option Addr} {n cv : Nat} {L : List Int} {wr w2 : World} (h : DrawInv w P9 T W H SW SH sa sn scap av n cv L wr) (hk : Kept (fun _ => False) wr w2) : DrawInv w P9 T W H SW SH sa sn scap av n cv L w2 :=
 ⟨h.1.kept hk (fun _ _ => id), h.2.1.then hk, hk.blk h.2.2.1 id, hk.blk h.2.2.2.1 id, hk.blk h.2.2.2.2 id⟩
theorem DrawInv.put {w : World} {P9 T W H SW SH : Nat} {sa : Option Addr} {sn scap : Nat} {av : Option Addr} {n cv : Nat} {L L' : List Int} {wr w2 : World} {g : Nat} (h : DrawInv w P9 T W H SW SH sa sn scap av n cv L wr) (ho : Own .u8 5 w2 (.slice av n cv) L') (hk : Kept (fun i => i = g) wr w2) (hg : w.heap.size + 3 <= g) (hgP : g < P9) : DrawInv w P9 T W H SW SH sa sn scap av n cv L' w2 :=
 ⟨ho, h.2.1.trans (hk.mono fun i _ hi => Or.inr (by have h9 : i = g := hi; omega)), hk.blk h.2.2.1 (fun (h : w.heap.size + 1 = g) => by omega), hk.blk h.2.2.2.1 (fun (h : w.heap.size + 1 + 1 = g) => by omega), hk.blk h.2.2.2.2 (fun (h : P9 = g) => by omega)⟩
end Go.Proofs.YtmplpcmcbliadaaGreatDoor
