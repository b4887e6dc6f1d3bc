/- What 'x.f = append(x.f, ..)' leaves, in one law: the block that holds the field, the slice, where it lies, what is kept. -/
import Derived.Test.YtdjgmhbfohbenaaCopy
namespace Go.Proofs.Ytdjgmhbfohbenaa
open Go.RowKit
/-- A list of numbers as it stands in the world when a one-element literal was laid into a block of its own. -/
theorem slAt_one {k : IntKind} (w : World) (y : Int) (e : TypeId) : SlAt k (w.alloc (.cells #[.int k y] e)) (some ⟨w.heap.size, 0, none⟩) 1 [y] := slAt_blk (blk_new w _) rfl rfl
theorem app_field {k : IntKind} {e T : TypeId} {w wa w5 : World} {p i : Nat} {C : Array Value} {v v5 : Value} {zs : List Int} {o : Option Nat} (hb : w.heap[p]? = some (.cells C T (0, 0))) (hvo : v.ownBlock = o) (hop : o ≠ some p)
    (hka : Kept (fun _ => False) w wa) (ho5 : Own k e w5 v5 zs) (hk5 : Kept (fun k => v.ownBlock = some k) wa w5) (hpr5 : v5.ownBlock = v.ownBlock ∨ v5.ownBlock = some wa.heap.size) :
    (w5.setCell ⟨p, i, none⟩ v5).heap[p]? = some (.cells (C.setIfInBounds i v5) T (0, 0)) ∧ Own k e (w5.setCell ⟨p, i, none⟩ v5) v5 zs ∧ v5.ownBlock ≠ some p ∧ Kept (fun j => j = p ∨ o = some j) w (w5.setCell ⟨p, i, none⟩ v5) ∧ (v5.ownBlock = o ∨ ∃ b, v5.ownBlock = some b ∧ w.heap.size ≤ b) := by
  have hpw : p < w.heap.size := lt_of_blk hb
  have hza := hka.size
  have hb5 : w5.heap[p]? = some (.cells C T (0, 0)) := hk5.blk (hka.blk hb id) (fun h => hop (by rw [← hvo]; exact h))
  have h5p : v5.ownBlock ≠ some p := by
    intro h
    rcases hpr5 with h2 | h2
    · exact hop (by rw [← hvo, ← h2, h])
    · rw [h] at h2; have h3 := Option.some.inj h2; omega
  have hk : Kept (fun j => j = p ∨ o = some j) w w5 := (hka.mono (fun _ _ h => h.elim)).then (hk5.mono (fun i _ hi => Or.inr (by rw [← hvo]; exact hi)))
  refine ⟨blk_set hb5 i v5, ho5.kept (S := (· = p)) ((Kept.refl (· = p) w5).setCell (p := ⟨p, i, none⟩) (.inl rfl) _) (fun b hb hbp => h5p (by rw [hb]; exact congrArg some hbp)), h5p, hk.setCell (p := ⟨p, i, none⟩) (.inl (.inl rfl)) _, ?_⟩
  rcases hpr5 with h | h
  · exact .inl (h.trans hvo)
  · exact .inr ⟨_, h, hza⟩
theorem Own.lt {k : IntKind} {e : TypeId} {w : World} {v : Value} {xs : List Int} (h : Own k e w v xs) : ∀ b, v.ownBlock = some b → b < w.heap.size := fun b hb => (World.ownsRow.lt h b hb).2
end Go.Proofs.Ytdjgmhbfohbenaa
