/- Twins of matrices. -/
import Derived.Test.YtdjgmhbfohbenaaPix
import Derived.WalkSpells
import Derived.Deep.RegionHeld3
import Derived.Test.YtdjgmhbfohbenaaAppStep
namespace Go.Proofs.Ytdjgmhbfohbenaa
open Go.RowKit Go.Sort
set_option linter.unusedVariables false
set_option linter.unusedSimpArgs false
/-- A slice that a call made: its bytes, its block. -/
def Made (w : World) (p : List Int) (v : Value) (w' : World) : Prop := Own .u8 5 w' v p ∧ Kept (fun _ => False) w w' ∧ ∀ b, v.ownBlock = some b → w.heap.size ≤ b
theorem Own.retag {k : IntKind} {e : TypeId} {w : World} {v : Value} {xs ys : List Int} (h : Own k e w v xs) (hy : ys = xs) : Own k e w v ys := hy ▸ h
set_option maxRecDepth 100000 in
set_option maxHeartbeats 4000000 in
theorem clone_any (a : Option Addr) (n cap : Nat) (p : List Int) (w : World) (hs : SlAt .u8 w a n p) (hn : n ≤ 16384) (hnil : a = none → n = 0 ∧ cap = 0) :
    Calls Try.prog 104 #[.slice a n cap] w fun e w' => ∃ v, e = .returned v ∧ Made w p v w' := by
  obtain ⟨i0, hi, hz0, hz1, hz2⟩ := info_parts Try.info5
  have HI := Lib.hid (And.intro hi (And.intro hz0 (And.intro hz1 hz2)))
  clear hi hz0 hz1 hz2
  cases a with
  | none =>
    obtain ⟨rfl, rfl⟩ := hnil rfl
    have hp : p = [] := List.eq_nil_of_length_eq_zero hs.1
    subst hp
    clear hs
    have qn := fun w => Lib.run_eql_slice_nil (P := Try.prog) w 29 5 none 0 0 0 0 Try.underlying29
    go_enter Try.func104, Try.ntmps104
    go_wp2
    go_ret
    exact ⟨_, rfl, Own.nil _ _ _, Kept.refl _ _, fun b h => by cases h⟩
  | some x =>
    have HS := Lib.hid (hs.up ((Kept.refl (fun _ => False) w).alloc (.cells #[] 5)))
    clear hs
    have qn := fun w => Lib.run_eql_slice_nil (P := Try.prog) w 29 5 (some x) n cap 0 0 Try.underlying29
    go_enter Try.func104, Try.ntmps104
    go_wp2_with (at_builtin; refine wpList_appInts rfl (.tmp 5) (.tmp 6) 29 rfl 5 .u8 i0 (.int .u8 0) 1 Try.underlying29 HI.out.1 HI.out.2.1 HI.out.2.2.1 HI.out.2.2.2 rfl (.slice (some ⟨w.heap.size, 0, none⟩) 0 0) [] rfl (Own.new _ _) (some x) n cap p rfl (fun h => by cases h) HS.out (by simp; omega) (by simp [maxLen]; omega) ?_; intro v5 w5 ho5 hk5 hpr5; have HO5 := Lib.hid ho5; have HK5 := Lib.hid hk5; have HP5 := Lib.hid hpr5; clear ho5 hk5 hpr5)
    go_ret
    refine ⟨v5, rfl, HO5.out, ((Kept.refl _ w).alloc _).trans (HK5.out.mono fun i _ hi => Or.inr (by cases hi; exact Nat.le_refl _)), fun b hb => ?_⟩
    rcases HP5.out with h | h
    · rw [h] at hb; cases hb; exact Nat.le_refl _
    · rw [h] at hb; have h9 := Option.some.inj hb; simp at h9; omega
theorem Made.kept {w w' w2 : World} {p : List Int} {v : Value} (h : Made w p v w') (hk : Kept (fun i => i < w.heap.size) w' w2) (hk2 : Kept (fun _ => False) w w2) : Made w p v w2 :=
  ⟨h.1.kept hk (fun b hb hS => by have := h.2.2 b hb; have h9 : b < w.heap.size := hS; omega), hk2, h.2.2⟩
set_option maxRecDepth 100000 in
set_option maxHeartbeats 4000000 in
theorem twin_any (W H : Int) (a : Option Addr) (n cap : Nat) (p : List Int) (w : World) (hs : SlAt .u8 w a n p) (hn : n ≤ 16384) (hnil : a = none → n = 0 ∧ cap = 0) :
    Calls Try.prog 103 #[.agg #[.int .i64 W, .int .i64 H, .slice a n cap]] w fun e w' => ∃ v, e = .returned (.agg #[.int .i64 W, .int .i64 H, v]) ∧ Made w p v w' := by
  obtain ⟨V, hV⟩ : ∃ V, (w.alloc (.cells #[.int .i64 W, .int .i64 H, .slice a n cap] 31)).alloc (.cells #[.int .i64 0, .int .i64 0, .slice none 0 0] 31) = V := ⟨_, rfl⟩
  have kV : Kept (fun _ => False) w V := by rw [← hV]; exact ((Kept.refl _ w).alloc _).alloc _
  have b0 : V.heap[w.heap.size]? = some (.cells #[.int .i64 W, .int .i64 H, .slice a n cap] 31 (0, 0)) := by rw [← hV]; exact blk_alloc (blk_new _ _) _
  have b1 : V.heap[w.heap.size + 1]? = some (.cells #[.int .i64 0, .int .i64 0, .slice none 0 0] 31 (0, 0)) := by rw [← hV]; exact blk_at _ _ (by simp)
  have sV : V.heap.size = w.heap.size + 2 := by rw [← hV]; simp
  have HC := Lib.hid (clone_any a n cap p V (hs.up kV) hn hnil)
  obtain ⟨⟨c0, -⟩, ⟨c1, -⟩, c2, -⟩ := blk3 b0
  have HB0 := Lib.hid b0
  have HB1 := Lib.hid b1
  have HK := Lib.hid kV
  clear hs b0 b1 kV hnil
  go_enter Try.func103, Try.ntmps103
  go_wp2_with fail
  refine HC.out.mono ?_; rintro e w1 ⟨v, rfl, ho, hk, hf⟩
  obtain ⟨av, cv, rfl, -⟩ := ho.shape
  have d0 := hk.blk HB0.out id
  have d1 := hk.blk HB1.out id
  obtain ⟨U, hU⟩ : ∃ U, w1.setCell ⟨w.heap.size, 2, none⟩ (.slice av p.length cv) = U := ⟨_, rfl⟩
  have kU : Kept (fun i => i = w.heap.size) w1 U := by rw [← hU]; exact (Kept.refl (fun i => i = w.heap.size) _).setCell (p := ⟨w.heap.size, 2, none⟩) (.inl rfl) _
  have u0 : U.heap[w.heap.size]? = some (.cells #[.int .i64 W, .int .i64 H, (.slice av p.length cv)] 31 (0, 0)) := by rw [← hU]; exact blk_set d0 2 _
  have u1 := kU.blk d1 (fun (h : w.heap.size + 1 = w.heap.size) => by omega)
  obtain ⟨⟨x0, y0⟩, ⟨x1, y1⟩, x2, y2⟩ := blk3 d0
  obtain ⟨⟨p0, -⟩, ⟨p1, -⟩, p2, -⟩ := blk3 u0
  obtain ⟨V1, V2, V3, f1, f2, f3, ⟨g0, g0'⟩, ⟨g1, g1'⟩, ⟨g2, g2'⟩, bV, kV3⟩ := store3 u1 (.int .i64 W) (.int .i64 H) (.slice av p.length cv)
  obtain ⟨⟨m0, -⟩, ⟨m1, -⟩, m2, -⟩ := blk3 bV
  have kk : Kept (fun i => i = w.heap.size ∨ i = w.heap.size + 1) w1 V3 := (kU.mono fun i _ h => Or.inl h).then (kV3.mono fun i _ h => Or.inr h)
  have HO := Lib.hid (ho.kept kk (fun b hb hS => by have := hf b hb; rcases hS with h | h <;> omega))
  have HKK := Lib.hid ((HK.out.then hk).trans (kk.mono fun i _ hi => Or.inr (by rcases hi with h | h <;> omega)))
  have HF := Lib.hid hf
  clear ho hk hf d0 d1 kU u0 u1 bV kV3 kk c0 c1 c2
  go_wp2
  exact bodyPost_ret (v := .agg #[.int .i64 W, .int .i64 H, (.slice av p.length cv)]) (by simp [results, Try.results103, go_sem, m0, m1, m2]) rfl ⟨_, rfl, HO.out, HKK.out, fun b hb => by have := HF.out b hb; omega⟩
set_option maxRecDepth 100000 in
set_option maxHeartbeats 4000000 in
theorem rtwin_any (W H : Int) (a : Option Addr) (n cap : Nat) (p : List Int) (w : World) (hs : SlAt .u8 w a n p) (hn : n ≤ 16384) (hnil : a = none → n = 0 ∧ cap = 0) :
    Calls Try.prog 52 #[.agg #[.int .i64 W, .int .i64 H, .slice a n cap]] w fun e w' => ∃ v, e = .returned (.agg #[.int .i64 W, .int .i64 H, v]) ∧ Made w p v w' := by
  obtain ⟨i0, hi, hz0, hz1, hz2⟩ := info_parts Try.info5
  have HI := Lib.hid (And.intro hi (And.intro hz0 (And.intro hz1 hz2)))
  clear hi hz0 hz1 hz2
  obtain ⟨V, hV⟩ : ∃ V, (w.alloc (.cells #[.int .i64 W, .int .i64 H, .slice a n cap] 35)).alloc (.cells #[.int .i64 0, .int .i64 0, .slice none 0 0] 35) = V := ⟨_, rfl⟩
  have kV : Kept (fun _ => False) w V := by rw [← hV]; exact ((Kept.refl _ w).alloc _).alloc _
  have b0 : V.heap[w.heap.size]? = some (.cells #[.int .i64 W, .int .i64 H, .slice a n cap] 35 (0, 0)) := by rw [← hV]; exact blk_alloc (blk_new _ _) _
  have b1 : V.heap[w.heap.size + 1]? = some (.cells #[.int .i64 0, .int .i64 0, .slice none 0 0] 35 (0, 0)) := by rw [← hV]; exact blk_at _ _ (by simp)
  have sV : w.heap.size + 2 ≤ V.heap.size := by rw [← hV]; simp
  obtain ⟨⟨c0, -⟩, ⟨c1, -⟩, c2, -⟩ := blk3 b0
  have kA := (((Kept.refl (fun _ => False) V).alloc (.cells #[] 5)).drew)
  have HS := Lib.hid ((hs.up kV).up kA)
  have HOW := Lib.hid (show Own .u8 5 ((V.alloc (.cells #[] 5)).drew) (.slice (some ⟨V.heap.size, 0, none⟩) 0 0) [] from (Own.new .u8 V).kept ((Kept.refl (fun _ => False) _).drew) (fun _ _ => id))
  have HNIL := Lib.hid hnil
  have HB0 := Lib.hid (kA.blk b0 id)
  have HB1 := Lib.hid (kA.blk b1 id)
  have HKA := Lib.hid (kV.then kA)
  clear hs b0 b1 kV hnil kA
  go_enter Try.func52, Try.ntmps52
  go_wp2
  go_region_held3 (fun w' => w'.cell? ⟨w.heap.size, 0, none⟩ = some (.int .i64 W) ∧ w'.cell? ⟨w.heap.size, 1, none⟩ = some (.int .i64 H) ∧ w'.cell? ⟨w.heap.size, 2, none⟩ = some (.slice a n cap)) (first | ((go_keep; done)) | (go_split_ands; all_goals go_keep))
    ((refine step_appInts rfl (.tmp 7) (.tmp 9) 29 rfl 5 .u8 i0 (.int .u8 0) 1 Try.underlying29 HI.out.1 HI.out.2.1 HI.out.2.2.1 HI.out.2.2.2 rfl (.slice (some ⟨V.heap.size, 0, none⟩) 0 0) [] (by rfl) HOW.out a n cap p (by rfl) HNIL.out HS.out (by simp; omega) (by simp [maxLen]; omega) ?_; intro v5 w5 ho5 hk5 hpr5; rw [List.nil_append] at ho5; obtain ⟨av, cv, rfl, -⟩ := ho5.shape; have hf : ∀ b, (Value.slice av p.length cv).ownBlock = some b → w.heap.size + 2 ≤ b := (fun b hb => by (rcases hpr5 with h | h; (rw [h] at hb; have h9 : V.heap.size = b := Option.some.inj hb; omega); (rw [h] at hb; have h9 : V.heap.size + 1 = b := (by have h7 := Option.some.inj hb; simpa using h7); omega))); have kk := (HKA.out.trans (hk5.mono fun i _ hi => Or.inr (by have h9 : V.heap.size = i := Option.some.inj hi; omega))); have d0 := hk5.blk HB0.out (fun (h : some V.heap.size = some w.heap.size) => by have h9 := Option.some.inj h; omega); have d1 := hk5.blk HB1.out (fun (h : some V.heap.size = some (w.heap.size + 1)) => by have h9 := Option.some.inj h; omega); obtain ⟨⟨x0, -⟩, ⟨x1, -⟩, x2, -⟩ := blk3 d0; obtain ⟨V1, V2, V3, f1, f2, f3, ⟨g0, g0'⟩, ⟨g1, g1'⟩, ⟨g2, g2'⟩, bV, kV3⟩ := store3 d1 (.int .i64 W) (.int .i64 H) (.slice av p.length cv); obtain ⟨⟨m0, -⟩, ⟨m1, -⟩, m2, -⟩ := blk3 bV; obtain ⟨⟨r0, -⟩, ⟨r1, -⟩, r2, -⟩ := blk3 (kV3.blk d0 (fun (h : w.heap.size = w.heap.size + 1) => by omega)); have HO := Lib.hid (ho5.kept kV3 (fun b hb (hS : b = w.heap.size + 1) => by have := hf b hb; omega)); have HK := Lib.hid (kk.trans (kV3.mono fun i _ hi => Or.inr (by have h9 : i = w.heap.size + 1 := hi; omega))); have HF := Lib.hid hf; clear ho5 hk5 hpr5 hf kk d0 d1 bV kV3))
  go_wp2
  exact bodyPost_ret (v := .agg #[.int .i64 W, .int .i64 H, .slice av p.length cv]) (by simp [results, Try.results52, go_sem, m0, m1, m2]) rfl ⟨_, rfl, HO.out, HK.out, fun b hb => by have := HF.out b hb; omega⟩
end Go.Proofs.Ytdjgmhbfohbenaa
