import Derived.Test.YtocahkmfopbdlaaRref2
import Derived.Test.YtocahkmfopbdlaaAppStep
namespace Go.Proofs.Ytocahkmfopbdlaa
open Go.RowKit Pl
set_option linter.unusedVariables false
theorem drew_kept {w w' : World} (h : ∃ n, w' = w.drewN n) : Kept (fun _ => False) w w' := by obtain ⟨m, rfl⟩ := h; exact (Kept.refl _ _).drewN _
set_option maxRecDepth 100000 in
set_option maxHeartbeats 1000000 in
theorem refBytes_nil (q : Nat) (w : World) (h : RfAt w q none 0 0 [] 0) :
    Calls Try.prog 35 #[.pointer (some ⟨q, 0, none⟩), .int .i64 0] w fun e w' => ∃ v, e = .returned (.tuple #[v, .bool true]) ∧ Own .u8 5 w' v [] ∧ RfAt w' q none 0 0 [] 0 ∧ Kept (· = q) w w' ∧ ∀ b, v.ownBlock = some b → w.heap.size ≤ b := by
  obtain ⟨⟨c0, f0⟩, c1, f1⟩ := blk2 h.1
  have H := Lib.hid h
  clear h
  obtain ⟨i0, hi, hz0, hz1, hz2⟩ := info_parts Try.infoByte
  have HI := Lib.hid (And.intro hi (And.intro hz0 (And.intro hz1 hz2)))
  clear hi hz0 hz1 hz2
  go_enter Try.func35, Try.ntmps35
  go_wp2_with (go_at_call 37; refine (refLeft_any q _ 0 0 0 [] _ H.out).mono ?_; rintro e w1 ⟨rfl, hm⟩; have hk1 := drew_kept hm; have H1 := Lib.hid (H.out.kept hk1 id (fun _ _ _ _ => id)); clear hm c0 f0 c1 f1; obtain ⟨⟨c0, f0⟩, c1, f1⟩ := blk2 H1.out.1; have hqw1 : q < w1.heap.size := lt_of_blk H1.out.1)
  have hwa : Kept (fun _ => False) w1 ((w1.alloc (.cells #[] 5)).drew) := (((Kept.refl (fun _ => False) w1).alloc _).drew)
  have hown : Own .u8 5 ((w1.alloc (.cells #[] 5)).drew) (.slice (some ⟨w1.heap.size, 0, none⟩) 0 0) [] := (Own.new .u8 w1).kept ((Kept.refl (fun _ => False) _).drew) (fun _ _ => id)
  have hrf := H1.out.kept hwa id (fun _ _ _ _ => id)
  have HRF := Lib.hid hrf
  have HOW := Lib.hid hown
  have HWA := Lib.hid hwa
  clear hrf hown hwa
  have hz1 := hk1.size
  have p0 : IntKind.i64.wrap 0 = 0 := by decide
  go_region_law (refine step_appInts rfl (.tmp 24) (.tmp 41) 29 rfl 5 .u8 i0 (.int .u8 0) 1 Try.underlying29 HI.out.1 HI.out.2.1 HI.out.2.2.1 HI.out.2.2.2 rfl (.slice (some ⟨w1.heap.size, 0, none⟩) 0 0) [] rfl (by exact HOW.out) none 0 0 [] rfl (fun _ => ⟨rfl, rfl⟩) ⟨rfl, .inl rfl⟩ (by simp) (by simp [maxLen]) ?_; intro v5 w5 ho5 hk5 hpr5; have H5 := Lib.hid (HRF.out.kept hk5 (fun h => by have := Option.some.inj h; have h7 : w1.heap.size = q := this; omega) (fun b' off' h0 he hh => by cases he)); clear c0 f0 c1 f1; obtain ⟨⟨c0, f0⟩, c1, f1⟩ := blk2 H5.out.1; obtain ⟨a5, cap5, rfl, -⟩ := ho5.shape; have HO5 := Lib.hid ho5; have HP5 := Lib.hid hpr5; clear ho5 hpr5)
  all_goals go_wp2
  all_goals
    go_ret2
    have hfresh : ∀ b', (Value.slice a5 ([] ++ ([] : List Int)).length cap5).ownBlock = some b' → w1.heap.size ≤ b' := by
      intro b' hb'
      rcases HP5.out with h | h
      · rw [h] at hb'; have h6 := Option.some.inj hb'; have h7 : w1.heap.size = b' := h6; omega
      · rw [h] at hb'; have h6 := Option.some.inj hb'; simp at h6; omega
    have hkB : Kept (fun _ => False) w w5 := (hk1.then HWA.out).trans (hk5.mono (fun i _ h => Or.inr (by have h6 := Option.some.inj h; have h7 : w1.heap.size = i := h6; omega)))
    have hkq : Kept (· = q) w w5 := hkB.mono (fun _ _ h => h.elim)
    refine ⟨_, rfl, ?_, H5.out.put (by omega) (by omega), hkq.setCell (p := ⟨q, 1, none⟩) (.inl rfl) _, ?_⟩
    · have h2 := HO5.out.kept (S := (· = q)) ((Kept.refl (· = q) w5).setCell (p := ⟨q, 1, none⟩) (.inl rfl) (.int .i64 0)) (fun b' hb' hq' => by have h6 := hfresh b' hb'; have h7 : b' = q := hq'; omega)
      simpa using h2
    · intro b' hb'
      have h6 := hfresh b' (by simpa using hb')
      omega
end Go.Proofs.Ytocahkmfopbdlaa
