import Derived.Test.YtocahkmfopbdlaaRrefNil
import Derived.Test.YtocahkmfopbdlaaAppStep
namespace Go.Proofs.Ytocahkmfopbdlaa
open Go.RowKit Pl
set_option linter.unusedVariables false
set_option maxRecDepth 100000 in
set_option maxHeartbeats 6000000 in
theorem refBytes_some (q : Nat) (b off : Nat) (len cap t k n : Nat) (xs : List Int) (w : World) (h : RfAt w q (some ⟨b, off, none⟩) len cap xs t) (ht : t = 8 * k) (hn : k + n ≤ len) :
    Calls Try.prog 35 #[.pointer (some ⟨q, 0, none⟩), .int .i64 n] w fun e w' => ∃ v, e = .returned (.tuple #[v, .bool true]) ∧ Own .u8 5 w' v ((xs.drop k).take n) ∧ RfAt w' q (some ⟨b, off, none⟩) len cap xs (t + 8 * n) ∧ Kept (· = q) w w' ∧ ∀ b, v.ownBlock = some b → w.heap.size ≤ b := by
  have hl4 : len ≤ 400 := h.2.2.2.2.2.2.1
  have hcap : len ≤ cap := h.2.2.2.2.2.2.2.1
  have hcm : cap ≤ 9223372036854775807 := h.2.2.2.2.2.2.2.2
  obtain ⟨⟨c0, f0⟩, c1, f1⟩ := blk2 h.1
  have hqw : q < w.heap.size := lt_of_blk h.1
  have hr : (t : Int) % 8 = 0 := by omega
  have hq : (t : Int) / 8 = (k : Int) := by omega
  have hq2 : (8 * (len : Int) - t) / 8 = ((len - k : Nat) : Int) := by omega
  have hg : decide (((len - k : Nat) : Int) < (n : Int)) = false := by simp; omega
  have hneg : decide ((n : Int) < 0) = false := by simp
  have hkn : (k : Int) + n ≤ cap := by omega
  have hkn2 : (k : Int) ≤ (k : Int) + n := by omega
  have ht8 : t + 8 * n ≤ 8 * len := by omega
  have p0 : IntKind.i64.wrap (k : Int) = (k : Int) := IntWalk.i64_in _ (by omega)
  have p1 : IntKind.i64.wrap ((k : Int) + n) = (k : Int) + n := IntWalk.i64_in _ (by omega)
  have p2 : ((k : Int) + n).toNat = k + n := by omega
  have p3 : (0 : Int) ≤ (k : Int) + n := by omega
  have p4 : k + n ≤ cap := by omega
  have p5 : k ≤ k + n := by omega
  have p6 : k + n - k = n := by omega
  have H := Lib.hid h
  clear h ht
  obtain ⟨i0, hi, hz0, hz1, hz2⟩ := info_parts Try.infoByte
  have HI := Lib.hid (And.intro hi (And.intro hz0 (And.intro hz1 hz2)))
  clear hi hz0 hz1 hz2
  go_enter Try.func35, Try.ntmps35
  go_wp2_with (go_at_call 37; refine (refLeft_any q _ len cap t xs _ H.out).mono ?_; rintro e w1 ⟨rfl, hm⟩; have hk1 := drew_kept hm; have H1 := Lib.hid (H.out.kept hk1 id (fun _ _ _ _ => id)); clear hm c0 f0 c1 f1; obtain ⟨⟨c0, f0⟩, c1, f1⟩ := blk2 H1.out.1; have hqw1 : q < w1.heap.size := lt_of_blk H1.out.1)
  have hwa : Kept (fun _ => False) w1 ((w1.alloc (.cells #[] 5)).drew) := (((Kept.refl (fun _ => False) w1).alloc _).drew)
  have hown : Own .u8 5 ((w1.alloc (.cells #[] 5)).drew) (.slice (some ⟨w1.heap.size, 0, none⟩) 0 0) [] := (Own.new .u8 w1).kept ((Kept.refl (fun _ => False) _).drew) (fun _ _ => id)
  have hrf := H1.out.kept hwa id (fun _ _ _ _ => id)
  have hblt : n ≠ 0 → b < w1.heap.size := by
    intro h0
    have h9 := H1.out.2.1
    obtain ⟨b', off', he, hc⟩ := h9.2.resolve_left (by omega)
    cases he
    exact lt_of_cell (hc 0 (by omega))
  have hblt2 : 0 < len → b < w1.heap.size := by
    intro h0
    have h9 := H1.out.2.1
    obtain ⟨b', off', he, hc⟩ := h9.2.resolve_left (by omega)
    cases he
    exact lt_of_cell (hc 0 (by omega))
  have hsl1 : SlAt .u8 ((w1.alloc (.cells #[] 5)).drew) (if cap = k then some ⟨b, off, none⟩ else some ⟨b, off + k, none⟩) n ((xs.drop k).take n) := by
    have h9 := hrf.2.1
    have hx := h9.1
    refine ⟨by simp; omega, ?_⟩
    by_cases h0 : n = 0
    · exact .inl h0
    · rw [if_neg (by omega)]
      obtain ⟨b', off', he, hc⟩ := h9.2.resolve_left (by omega)
      cases he
      refine .inr ⟨b, off + k, rfl, fun j hj => ?_⟩
      have h8 := hc (k + j) (by omega)
      rw [← Nat.add_assoc] at h8
      rw [h8]
      congr 2
      simp [List.getD_eq_getElem?_getD, hj]
  have HRF := Lib.hid hrf
  have HSL := Lib.hid hsl1
  have HOW := Lib.hid hown
  have HWA := Lib.hid hwa
  clear hrf hsl1 hown hwa
  have hz1 := hk1.size
  go_region_law (refine step_appInts rfl (.tmp 24) (.tmp 41) 29 rfl 5 .u8 i0 (.int .u8 0) 1 Try.underlying29 HI.out.1 HI.out.2.1 HI.out.2.2.1 HI.out.2.2.2 rfl (.slice (some ⟨w1.heap.size, 0, none⟩) 0 0) [] rfl (by exact HOW.out) (if cap = k then some ⟨b, off, none⟩ else some ⟨b, off + k, none⟩) n (cap - k) ((xs.drop k).take n) rfl (fun h => by split at h <;> cases h) (by exact HSL.out) (by simp; omega) (by simp [maxLen]; omega) ?_; intro v5 w5 ho5 hk5 hpr5; have H5 := Lib.hid (HRF.out.kept hk5 (fun h => by have := Option.some.inj h; have h7 : w1.heap.size = q := this; omega) (fun b' off' h0 he hh => by cases he; have := Option.some.inj hh; have h7 : w1.heap.size = b := this; have := hblt2 h0; omega)); clear c0 f0 c1 f1; obtain ⟨⟨c0, f0⟩, c1, f1⟩ := blk2 H5.out.1; obtain ⟨a5, cap5, rfl, -⟩ := ho5.shape; have HO5 := Lib.hid ho5; have HP5 := Lib.hid hpr5; clear ho5 hpr5)
  all_goals go_wp2
  all_goals
    first | (have h' := h.symm; subst h'; skip) | skip
    go_ret2
    have hfresh : ∀ b', (Value.slice a5 ([] ++ (xs.drop k).take n).length cap5).ownBlock = some b' → w1.heap.size ≤ b' := by
      intro b' hb'
      rcases HP5.out with h | h
      · rw [h] at hb'; have h6 := Option.some.inj hb'; have h7 : w1.heap.size = b' := h6; omega
      · rw [h] at hb'; have h6 := Option.some.inj hb'; simp at h6; omega
    have hkB : Kept (fun _ => False) w w5 := (hk1.then HWA.out).trans (hk5.mono (fun i _ h => Or.inr (by have h6 := Option.some.inj h; have h7 : w1.heap.size = i := h6; omega)))
    have hkq : Kept (· = q) w w5 := hkB.mono (fun _ _ h => h.elim)
    refine ⟨_, rfl, ?_, H5.out.put (by omega) ht8, hkq.setCell (p := ⟨q, 1, none⟩) (.inl rfl) _, ?_⟩
    · have h2 := HO5.out.kept (S := (· = q)) ((Kept.refl (· = q) w5).setCell (p := ⟨q, 1, none⟩) (.inl rfl) (.int .i64 ((t : Int) + 8 * n))) (fun b' hb' hq' => by have h6 := hfresh b' hb'; have h7 : b' = q := hq'; omega)
      simpa using h2
    · intro b' hb'
      have h6 := hfresh b' (by simpa using hb')
      omega
end Go.Proofs.Ytocahkmfopbdlaa
