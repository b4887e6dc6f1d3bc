/- Parameters applied: the document's. -/
import Derived.Test.YtdcbaobipogmnaaLong
import Derived.Deep.RegionHeld3
namespace Go.Proofs.Ytdcbaobipogmnaa
open Go.RowKit Pl
set_option linter.unusedVariables false
set_option linter.unusedSimpArgs false
/-- A parameter that is no 38, 48, as the document has it. -/
def rone (a : Look) (n : Int) : Look :=
  if n = 0 then ⟨0, 0, 0⟩ else if n = 39 then { a with fg := 0 } else if n = 49 then { a with bg := 0 }
  else if 0 ≤ colN n then setL a (16777216 + colN n) (foreB n) else if flag2 n = 0 then a else if onB n = true then { a with fl := orI a.fl (flag2 n) } else { a with fl := subI a.fl (flag2 n) }
theorem col_lt (n : Int) : -1 ≤ colN n ∧ colN n ≤ 15 := by unfold colN; (repeat (first | split | omega))
theorem flagN_six : flagN 6 = 0 := by unfold flagN; simp
theorem one_ranges (n : Int) : n = 0 ∨ (1 ≤ n ∧ n ≤ 9) ∨ n = 22 ∨ (23 ≤ n ∧ n ≤ 29) ∨ (40 ≤ n ∧ n ≤ 47) ∨ (30 ≤ n ∧ n ≤ 37) ∨ (100 ≤ n ∧ n ≤ 107) ∨ (90 ≤ n ∧ n ≤ 97) ∨ n = 39 ∨ n = 49 ∨
    (n < 0 ∨ (10 ≤ n ∧ n ≤ 21) ∨ n = 38 ∨ n = 48 ∨ (50 ≤ n ∧ n ≤ 89) ∨ n = 98 ∨ n = 99 ∨ 108 ≤ n) := by omega
theorem rone_eq {a : Look} (h : a.In) (n : Int) : rone a n = one a n := by
  have hcol : ¬ ((30 ≤ n ∧ n ≤ 37) ∨ (40 ≤ n ∧ n ≤ 47) ∨ (90 ≤ n ∧ n ≤ 97) ∨ (100 ≤ n ∧ n ≤ 107)) → colN n = -1 := by
    intro h; unfold colN; rw [if_neg (by omega), if_neg (by omega), if_neg (by omega), if_neg (by omega)]
  have hfl : n < 0 ∨ 10 ≤ n ∧ n ≤ 21 ∨ 30 ≤ n → flag2 n = 0 := by
    intro h; unfold flag2
    rw [if_neg (by omega)]
    by_cases h2 : n < 20
    · rw [if_pos h2]; unfold flagN; (repeat (first | rw [if_neg (by omega)]))
    · rw [if_neg h2, if_neg (by omega)]
  rcases one_ranges n with c | c | c | c | c | c | c | c | c | c | c
  · subst c; unfold rone one; rfl
  · unfold rone one
    have e1 := hcol (by omega)
    rw [if_neg (by omega), if_neg (by omega), if_neg (by omega), if_neg (by omega), if_neg (show ¬ n = 0 by omega), if_pos c]
    have hf : flag2 n = flagN n := by unfold flag2; rw [if_neg (by omega), if_pos (by omega)]
    by_cases h6 : n = 6
    · subst h6; rw [hf, flagN_six, if_pos rfl, or_zero h.2.2]
    · have ho : onB n = true := decide_eq_true (by omega)
      rw [hf, if_neg (by unfold flagN; (repeat (first | split | omega))), if_pos ho]
  · subst c; unfold rone one
    rw [if_neg (by omega), if_neg (by omega), if_neg (by omega), if_neg (by decide), if_neg (by decide), if_neg (by decide), if_neg (by omega), if_neg (by omega), if_pos rfl]
    have e : flag2 22 = 3 := by decide
    rw [e, sub_three]
  · unfold rone one
    have e1 := hcol (by omega)
    rw [if_neg (by omega), if_neg (by omega), if_neg (by omega), if_neg (by omega), if_neg (show ¬ n = 0 by omega), if_neg (show ¬ (1 ≤ n ∧ n ≤ 9) by omega), if_neg (show ¬ n = 22 by omega), if_pos c]
    by_cases h6 : n = 26
    · subst h6
      have e : flag2 26 = 0 := by decide
      rw [if_pos e, show (26 : Int) - 20 = 6 by omega, flagN_six, sub_zero h.2.2]
    · have hf : flag2 n = flagN (n - 20) := by unfold flag2; rw [if_neg (by omega), if_neg (by omega), if_pos (by omega)]
      have ho : ¬ onB n = true := by unfold onB; simp; omega
      rw [hf, if_neg (by unfold flagN; (repeat (first | split | omega))), if_neg ho]
  · unfold rone one
    have e1 : colN n = n - 40 := by unfold colN; rw [if_neg (by omega), if_pos c]
    have ef : foreB n = false := decide_eq_false (by omega)
    rw [if_neg (by omega), if_neg (by omega), if_neg (by omega), e1, if_pos (by omega), ef, if_neg (show ¬ n = 0 by omega), if_neg (by omega), if_neg (by omega), if_neg (by omega), if_pos c]; rfl
  · unfold rone one
    have e1 : colN n = n - 30 := by unfold colN; rw [if_pos c]
    have ef : foreB n = true := decide_eq_true (by omega)
    rw [if_neg (by omega), if_neg (by omega), if_neg (by omega), e1, if_pos (by omega), ef, if_neg (show ¬ n = 0 by omega), if_neg (by omega), if_neg (by omega), if_neg (by omega), if_neg (by omega), if_pos c]; rfl
  · unfold rone one
    have e1 : colN n = n - 92 := by unfold colN; rw [if_neg (by omega), if_neg (by omega), if_neg (by omega), if_pos c]
    have ef : foreB n = false := decide_eq_false (by omega)
    rw [if_neg (by omega), if_neg (by omega), if_neg (by omega), e1, if_pos (by omega), ef, if_neg (show ¬ n = 0 by omega), if_neg (by omega), if_neg (by omega), if_neg (by omega), if_neg (by omega), if_neg (by omega), if_pos c, show (16777216 : Int) + (n - 92) = 16777224 + (n - 100) by omega]; rfl
  · unfold rone one
    have e1 : colN n = n - 82 := by unfold colN; rw [if_neg (by omega), if_neg (by omega), if_pos c]
    have ef : foreB n = true := decide_eq_true (by omega)
    rw [if_neg (by omega), if_neg (by omega), if_neg (by omega), e1, if_pos (by omega), ef, if_neg (show ¬ n = 0 by omega), if_neg (by omega), if_neg (by omega), if_neg (by omega), if_neg (by omega), if_neg (by omega), if_neg (by omega), if_pos c, show (16777216 : Int) + (n - 82) = 16777224 + (n - 90) by omega]; rfl
  · subst c; unfold rone one; (repeat (first | rw [if_pos rfl] | rw [if_neg (by omega)]))
  · subst c; unfold rone one; (repeat (first | rw [if_pos rfl] | rw [if_neg (by omega)]))
  · unfold rone one
    have e1 := hcol (by omega)
    have e2 := hfl (by omega)
    rw [if_neg (by omega), if_neg (by omega), if_neg (by omega), if_neg (by omega), if_pos e2]
    (repeat (first | rw [if_neg (by omega)]))
theorem lng_far (a : Look) (fore : Bool) (l : List Int) :
    ((lng a fore l).2 = -1 ∧ far (if fore = true then a.fg else a.bg) l = ((if fore = true then a.fg else a.bg), [])) ∨
    (∃ k : Nat, (lng a fore l).2 = (k : Int) ∧ 3 ≤ k ∧ k ≤ l.length + 1 ∧ far (if fore = true then a.fg else a.bg) l = ((if fore = true then (lng a fore l).1.fg else (lng a fore l).1.bg), l.drop (k - 1)) ∧
      (lng a fore l).1 = setL a (far (if fore = true then a.fg else a.bg) l).1 fore) := by
  unfold lng
  split
  · rename_i v r
    right
    refine ⟨3, rfl, by omega, by simp, ?_, ?_⟩
    · unfold far setL; cases fore <;> by_cases hb : byteB v = true <;> simp [hb]
    · unfold far setL; cases fore <;> by_cases hb : byteB v = true <;> simp [hb]
  · rename_i r g b t
    right
    refine ⟨5, rfl, by omega, by simp, ?_, ?_⟩
    · unfold far setL; cases fore <;> by_cases hb : byteB r = true ∧ byteB g = true ∧ byteB b = true <;> simp only [hb, if_true, if_false, Bool.false_eq_true, if_neg, not_false_eq_true, and_self] <;> rfl
    · unfold far setL; cases fore <;> by_cases hb : byteB r = true ∧ byteB g = true ∧ byteB b = true <;> simp only [hb, if_true, if_false, Bool.false_eq_true, if_neg, not_false_eq_true, and_self] <;> rfl
  · rename_i h1 h2
    left
    refine ⟨rfl, ?_⟩
    unfold far
    split
    · exact absurd rfl (h1 _ _)
    · exact absurd rfl (h2 _ _ _ _)
    · rfl

/-- What holds of memory while parameters are applied: the attribute, the result to come. -/
def RInv (w : World) (a : Look) (wr : World) : Prop :=
  wr.heap[w.heap.size]? = some (.cells (cells3 a) 23 (0, 0)) ∧ wr.heap[w.heap.size + 1]? = some (.cells (cells3 ⟨0, 0, 0⟩) 23 (0, 0)) ∧ Kept (fun _ => False) w wr
theorem RInv.set {w : World} {a X : Look} {wr : World} (h : RInv w a wr) (i : Nat) (v : Value) (hX : cells3 X = (cells3 a).setIfInBounds i v) : RInv w X (wr.setCell ⟨w.heap.size, i, none⟩ v) := by
  refine ⟨?_, blk_set_other h.2.1 (by simp) v, h.2.2.setCell (p := ⟨w.heap.size, i, none⟩) (.inr (Nat.le_refl _)) v⟩
  rw [hX]; exact blk_set h.1 i v
theorem RInv.kept {w : World} {a : Look} {wr w2 : World} (h : RInv w a wr) (hk : Kept (fun _ => False) wr w2) : RInv w a w2 := ⟨hk.blk h.1 id, hk.blk h.2.1 id, h.2.2.then hk⟩
theorem RInv.st3 {w : World} {a : Look} {wr : World} (h : RInv w a wr) (x y z : Int) : RInv w ⟨x, y, z⟩ (((wr.setCell ⟨w.heap.size, 0, none⟩ (.int .i64 x)).setCell ⟨w.heap.size, 1, none⟩ (.int .i64 y)).setCell ⟨w.heap.size, 2, none⟩ (.int .i64 z)) :=
  ⟨Go.Proofs.Ytdcbaobipogmnaa.st3 h.1 x y z, st3_other h.2.1 (by omega) _ _ _, st3_kept h.2.2 (.inr (Nat.le_refl _)) _ _ _⟩
def RRel (w : World) (l : List Int) (len : Nat) (R : Look) (v : Value) (wr : World) : Prop :=
  ∃ (i : Nat) (a : Look), v = .int .i64 i ∧ i ≤ len ∧ a.In ∧ RInv w a wr ∧ ap a (l.drop i) = R
theorem drop_cons {l : List Int} {i : Nat} (h : i < l.length) : l.drop i = l.getD i 0 :: l.drop (i + 1) := by
  rw [List.drop_eq_getElem_cons h]; simp [h]
theorem RInv.st3z {w : World} {a X : Look} {wr : World} (h : RInv w a wr) (x y z : Int) (hX : X = ⟨x, y, z⟩) : RInv w X (((wr.setCell ⟨w.heap.size, 0, none⟩ (.int .i64 x)).setCell ⟨w.heap.size, 1, none⟩ (.int .i64 y)).setCell ⟨w.heap.size, 2, none⟩ (.int .i64 z)) := by
  rw [hX]; exact h.st3 x y z

set_option maxRecDepth 100000 in
set_option maxHeartbeats 16000000 in
theorem rapply_some (a : Look) (b off len cap : Nat) (l : List Int) (w : World) (h : Arg w.heap.size w (some ⟨b, off, none⟩) len cap l) (ha : a.In) (h0 : 0 < len) :
    Calls Try.prog 10 #[lookV a, .slice (some ⟨b, off, none⟩) len cap] w fun e w' => e = .returned (lookV (ap a l)) ∧ Kept (fun _ => False) w w' := by
  have q0 : ((len : Int) == 0) = false := by simp; omega
  have hlc := h.2.1
  have hcm := h.2.2.1
  obtain ⟨W, hW⟩ : ∃ W, (w.alloc (.cells (cells3 a) 23)).alloc (.cells (cells3 ⟨0, 0, 0⟩) 23) = W := ⟨_, rfl⟩
  have hi : RInv w a W := by rw [← hW]; exact ⟨blk_alloc (blk_new w _) _, blk_at _ _ (by simp), ((Kept.refl _ w).alloc _).alloc _⟩
  have HI0 := Lib.hid hi
  have HA := Lib.hid h
  obtain ⟨R, hR⟩ : ∃ R, ap a l = R := ⟨_, rfl⟩
  have HR := Lib.hid hR
  have HIN0 := Lib.hid ha
  clear hi h hR ha
  unfold lookV
  unfold cells3 at hW
  go_enter Try.func10, Try.ntmps10
  go_wp2
  clear hW
  go_loopw [5] (fun v wr => RRel w l len R v wr) (fun v _ => len - (intOf v).toNat)
  case atStart => exact ⟨0, a, rfl, by omega, HIN0.out, HI0.out, HR.out⟩
  case round =>
    obtain ⟨i, a, rfl, hil, hin, hi, hap⟩ := hrel
    have HI := Lib.hid hi
    have hll : l.length = len := HA.out.1.1
    obtain ⟨⟨c0, f0⟩, ⟨c1, f1⟩, c2, f2⟩ := cells_of hi.1
    obtain ⟨⟨d0, e0⟩, ⟨d1, e1⟩, d2, e2⟩ := cells_of hi.2.1
    by_cases hl : i < len
    · have hdr := drop_cons (l := l) (i := i) (by omega)
      have cn := ((HA.out.kept hi.2.2 (fun _ h => h.elim)).cellAt i hl).1
      have hn : In (l.getD i 0) := HA.out.2.2.2.2 _ (by rw [List.getD_eq_getElem?_getD, List.getElem?_eq_getElem (by omega)]; exact List.getElem_mem _)
      have hbn : b < w.heap.size := (HA.out.cellAt i hl).2
      obtain ⟨n, hnn⟩ : ∃ n, l.getD i 0 = n := ⟨_, rfl⟩
      obtain ⟨r, hrr⟩ : ∃ r, r = l.drop (i + 1) := ⟨_, rfl⟩
      rw [hnn] at hn cn hdr
      rw [← hrr] at hdr
      rw [hdr] at hap
      have gl : decide (i < len) = true := decide_eq_true hl
      have hn' := hn
      unfold In at hn'
      have HC1 := Lib.hid (fun w => colour_any n w)
      have HC2 := Lib.hid (fun w => flag2_any n w)
      have HRL := Lib.hid (show r.length + (i + 1) = len by rw [hrr]; simp; omega)
      clear hnn hi hll
      by_cases z0 : n = 0
      · as_aux_lemma =>
          have hst : stp a n r = (⟨0, 0, 0⟩, r) := by unfold stp; rw [if_neg (by omega), if_neg (by omega), ← rone_eq hin]; unfold rone; rw [if_pos z0]
          have HAP := Lib.hid (show ap ⟨0, 0, 0⟩ (l.drop (i + 1)) = R by rw [← hap, ap_cons, hst, hrr])
          have HIN := Lib.hid (show (⟨0, 0, 0⟩ : Look).In by have h := stp_in hin n hn r; rw [hst] at h; exact h)
          have q0 : (n == 0) = true := by simp; omega
          clear hst hap hin z0
          go_wp2_with fail
          refine (HC1.out _).mono ?_; rintro e w' ⟨rfl, rfl⟩
          go_wp2_with fail
          refine (HC2.out _).mono ?_; rintro e w' ⟨rfl, rfl⟩
          go_wp2
          go_roundw
          case rel => exact ⟨i + 1, _, by go_num, by omega, HIN.out, HI.out.st3 0 0 0, HAP.out⟩
          case measure => simp [intOf]; omega
      by_cases z : n = 38
      · as_aux_lemma =>
          have hst : stp a n r = ({ a with fg := (far a.fg r).1 }, (far a.fg r).2) := by unfold stp; rw [if_pos z]
          have hin2 := stp_in hin n hn r
          have q0 : (n == 0) = false := by simp; omega
          have q38 : (n == 38) = true := by simp; omega
          have hl' := lng_far a true r
          simp only [if_true, if_false, Bool.false_eq_true] at hl'
          have hA : Arg wr.heap.size wr (some ⟨b, off + i, none⟩) (len - i) (cap - i) (38 :: r) := by
            have h1 := (HA.out.kept HI.out.2.2 (fun _ h => h.elim)).drop i (by omega)
            rw [if_neg (by omega), hdr, z] at h1
            exact ⟨h1.1, h1.2.1, h1.2.2.1, fun b off h2 h3 => Nat.lt_of_lt_of_le (h1.2.2.2.1 b off h2 h3) HI.out.2.2.size, h1.2.2.2.2⟩
          obtain ⟨X, hXX⟩ : ∃ X, (lng a true r).1 = X := ⟨_, rfl⟩
          obtain ⟨u, hU⟩ : ∃ u, (lng a true r).2 = u := ⟨_, rfl⟩
          have HL : ∀ V, Kept (fun _ => False) wr V → Calls Try.prog 24 #[.agg #[.int .i64 a.fg, .int .i64 a.bg, .int .i64 a.fl], .slice (some ⟨b, off + i, none⟩) (len - i) (cap - i)] V fun e w' => e = .returned (.tuple #[.agg #[.int .i64 X.fg, .int .i64 X.bg, .int .i64 X.fl], .int .i64 u]) ∧ Kept (fun _ => False) V w' := fun (V : World) (hV : Kept (fun _ => False) wr V) => by
            have h1 := long_true a b (off + i) (len - i) (cap - i) r V (by have h2 := hA.kept hV (fun _ h => h.elim); exact ⟨h2.1, h2.2.1, h2.2.2.1, fun b off h3 h4 => Nat.lt_of_lt_of_le (h2.2.2.2.1 b off h3 h4) hV.size, h2.2.2.2.2⟩)
            rw [hXX, hU] at h1
            exact h1
          have HL := Lib.hid HL
          rw [hXX, hU] at hl'
          have u0 : (0 : Int) ≤ (i : Int) := by omega
          have u1 : (i : Int) ≤ (len : Int) := by omega
          have u2 : (i : Int) ≤ (cap : Int) := by omega
          have u3 : ¬ cap = i := by omega
          have u4 : (i : Int) < (cap : Int) := by omega
          rcases hl' with ⟨hu, hf⟩ | ⟨k, hu, hk3, hkl, hf, hX⟩
          · have hR : R = a := by rw [← hap, ap_cons, hst, hf, ap_nil]
            have HRR := Lib.hid hR
            rw [hu] at HL
            clear hu hf hst hin2 hap hin hA hR hrr hdr z hXX hU
            go_wp2_with fail
            refine (HC1.out _).mono ?_; rintro e w' ⟨rfl, rfl⟩
            go_wp2_with fail
            refine (HC2.out _).mono ?_; rintro e w' ⟨rfl, rfl⟩
            go_wp2
            go_region_held3 (fun w' => w'.cell? ⟨w.heap.size, 0, none⟩ = some (.int .i64 a.fg) ∧ w'.cell? ⟨w.heap.size, 1, none⟩ = some (.int .i64 a.bg) ∧ w'.cell? ⟨w.heap.size, 2, none⟩ = some (.int .i64 a.fl)) (first | ((go_keep; done)) | (go_split_ands; all_goals go_keep)) ((go_at_call 24; first
              | (refine Calls.mono (HL.out _ ((Kept.refl (fun _ => False) wr).drew)) ?_; rintro e w1 ⟨rfl, h1⟩; have hi1 := (HI.out.kept ((Kept.refl (fun _ => False) wr).drew)).kept h1; have hw1 : w.heap.size + 1 < w1.heap.size := lt_of_blk hi1.2.1; obtain ⟨V3, hV3⟩ : ∃ V3, w1.alloc (.cells #[.int .i64 X.fg, .int .i64 X.bg, .int .i64 X.fl] 23) = V3 := ⟨_, rfl⟩; have HI1 := Lib.hid hi1; have HI3 := Lib.hid (show RInv w a V3 from by rw [← hV3]; exact hi1.kept ((Kept.refl (fun _ => False) w1).alloc _)); have HX := Lib.hid (show V3.heap[w1.heap.size]? = some (.cells (cells3 X) 23 (0, 0)) from by rw [← hV3]; exact blk_new w1 _); obtain ⟨⟨c0, f0⟩, ⟨c1, f1⟩, c2, f2⟩ := cells_of hi1.1; obtain ⟨⟨k0, k0'⟩, ⟨k1, k1'⟩, k2, k2'⟩ := cells_of HI3.out.1; clear hi1 h1)
              | (refine Calls.mono (HL.out _ (by repeat (first | exact Kept.refl _ _ | refine Kept.drew ?_ | refine Kept.alloc ?_ _))) ?_; rintro e w1 ⟨rfl, h1⟩; have hz1 : w1.heap[wr.heap.size]? = some (.cells (cells3 ⟨0, 0, 0⟩) 23 (0, 0)) := h1.blk (show _ from blk_new wr (.cells #[.int .i64 0, .int .i64 0, .int .i64 0] 23)) id; have hi1 := (HI.out.kept (((Kept.refl (fun _ => False) wr).alloc (.cells #[.int .i64 0, .int .i64 0, .int .i64 0] 23)).drew)).kept h1; have hw1 : w.heap.size + 1 < wr.heap.size := lt_of_blk HI.out.2.1; obtain ⟨V1, hV1⟩ : ∃ V1, w1.setCell ⟨wr.heap.size, 0, none⟩ (.int .i64 X.fg) = V1 := ⟨_, rfl⟩; obtain ⟨V2, hV2⟩ : ∃ V2, V1.setCell ⟨wr.heap.size, 1, none⟩ (.int .i64 X.bg) = V2 := ⟨_, rfl⟩; obtain ⟨V3, hV3⟩ : ∃ V3, V2.setCell ⟨wr.heap.size, 2, none⟩ (.int .i64 X.fl) = V3 := ⟨_, rfl⟩; have HI3 := Lib.hid (show RInv w a V3 from by rw [← hV3, ← hV2, ← hV1]; exact ⟨st3_other hi1.1 (by omega) _ _ _, st3_other hi1.2.1 (by omega) _ _ _, st3_kept hi1.2.2 (.inr (by omega)) _ _ _⟩); have HX := Lib.hid (show V3.heap[wr.heap.size]? = some (.cells (cells3 X) 23 (0, 0)) from by rw [← hV3, ← hV2, ← hV1]; exact st3 hz1 _ _ _); obtain ⟨⟨z0, z0'⟩, ⟨z1, z1'⟩, z2, z2'⟩ := cells_of hz1; obtain ⟨⟨r0, -⟩, ⟨r1, r1'⟩, r2, r2'⟩ := cells_of (X := ⟨X.fg, 0, 0⟩) (show V1.heap[wr.heap.size]? = some (.cells (cells3 ⟨X.fg, 0, 0⟩) 23 (0, 0)) from by rw [← hV1]; exact blk_set hz1 0 _); obtain ⟨-, -, s2, s2'⟩ := cells_of (X := ⟨X.fg, X.bg, 0⟩) (show V2.heap[wr.heap.size]? = some (.cells (cells3 ⟨X.fg, X.bg, 0⟩) 23 (0, 0)) from by rw [← hV2, ← hV1]; exact blk_set (blk_set hz1 0 _) 1 _); obtain ⟨⟨c0, -⟩, ⟨c1, -⟩, c2, -⟩ := cells_of hi1.1; obtain ⟨⟨k0, k0'⟩, ⟨k1, k1'⟩, k2, k2'⟩ := cells_of HI3.out.1; clear hi1 h1 hz1 r0)))
            all_goals
              clear c0 c1 c2
              obtain ⟨⟨y0, -⟩, ⟨y1, -⟩, y2, -⟩ := cells_of HX.out
              obtain ⟨⟨d0, e0⟩, ⟨d1, e1⟩, d2, e2⟩ := cells_of HI3.out.2.1
              clear hV3
            all_goals go_wp2
            all_goals
              obtain ⟨⟨m0, -⟩, ⟨m1, -⟩, m2, -⟩ := cells_of (st3 HI3.out.2.1 a.fg a.bg a.fl)
              exact bodyPost_ret (v := .agg #[.int .i64 a.fg, .int .i64 a.bg, .int .i64 a.fl]) (by simp [results, Try.results10, go_sem, m0, m1, m2]) rfl ⟨by rw [HR.out, HRR.out], st3_kept HI3.out.2.2 (.inr (by omega)) _ _ _⟩
          · rw [hu] at HL
            rw [hst, hf] at hin2
            have hXe : { a with fg := X.fg } = X := by rw [hf] at hX; rw [hX]; rfl
            simp only [hXe] at hin2
            have HAP := Lib.hid (show ap X (l.drop (i + k)) = R by
              rw [← hap, ap_cons, hst, hf]
              simp only [hXe]
              congr 1
              rw [hrr, List.drop_drop]; congr 1; omega)
            have HIN := Lib.hid hin2
            have hkb : i + k ≤ len := by have := HRL.out; omega
            have k1 : (i : Int) + (k : Int) ≤ 9223372036854775807 := by omega
            have gk : decide ((k : Int) < 0) = false := decide_eq_false (by omega)
            clear hu hf hst hin2 hap hin hA hX hXX hU hXe hrr hdr z
            go_wp2_with fail
            refine (HC1.out _).mono ?_; rintro e w' ⟨rfl, rfl⟩
            go_wp2_with fail
            refine (HC2.out _).mono ?_; rintro e w' ⟨rfl, rfl⟩
            go_wp2
            go_region_held3 (fun w' => w'.cell? ⟨w.heap.size, 0, none⟩ = some (.int .i64 a.fg) ∧ w'.cell? ⟨w.heap.size, 1, none⟩ = some (.int .i64 a.bg) ∧ w'.cell? ⟨w.heap.size, 2, none⟩ = some (.int .i64 a.fl)) (first | ((go_keep; done)) | (go_split_ands; all_goals go_keep)) ((go_at_call 24; first
              | (refine Calls.mono (HL.out _ ((Kept.refl (fun _ => False) wr).drew)) ?_; rintro e w1 ⟨rfl, h1⟩; have hi1 := (HI.out.kept ((Kept.refl (fun _ => False) wr).drew)).kept h1; have hw1 : w.heap.size + 1 < w1.heap.size := lt_of_blk hi1.2.1; obtain ⟨V3, hV3⟩ : ∃ V3, w1.alloc (.cells #[.int .i64 X.fg, .int .i64 X.bg, .int .i64 X.fl] 23) = V3 := ⟨_, rfl⟩; have HI1 := Lib.hid hi1; have HI3 := Lib.hid (show RInv w a V3 from by rw [← hV3]; exact hi1.kept ((Kept.refl (fun _ => False) w1).alloc _)); have HX := Lib.hid (show V3.heap[w1.heap.size]? = some (.cells (cells3 X) 23 (0, 0)) from by rw [← hV3]; exact blk_new w1 _); obtain ⟨⟨c0, f0⟩, ⟨c1, f1⟩, c2, f2⟩ := cells_of hi1.1; obtain ⟨⟨k0, k0'⟩, ⟨k1, k1'⟩, k2, k2'⟩ := cells_of HI3.out.1; clear hi1 h1)
              | (refine Calls.mono (HL.out _ (by repeat (first | exact Kept.refl _ _ | refine Kept.drew ?_ | refine Kept.alloc ?_ _))) ?_; rintro e w1 ⟨rfl, h1⟩; have hz1 : w1.heap[wr.heap.size]? = some (.cells (cells3 ⟨0, 0, 0⟩) 23 (0, 0)) := h1.blk (show _ from blk_new wr (.cells #[.int .i64 0, .int .i64 0, .int .i64 0] 23)) id; have hi1 := (HI.out.kept (((Kept.refl (fun _ => False) wr).alloc (.cells #[.int .i64 0, .int .i64 0, .int .i64 0] 23)).drew)).kept h1; have hw1 : w.heap.size + 1 < wr.heap.size := lt_of_blk HI.out.2.1; obtain ⟨V1, hV1⟩ : ∃ V1, w1.setCell ⟨wr.heap.size, 0, none⟩ (.int .i64 X.fg) = V1 := ⟨_, rfl⟩; obtain ⟨V2, hV2⟩ : ∃ V2, V1.setCell ⟨wr.heap.size, 1, none⟩ (.int .i64 X.bg) = V2 := ⟨_, rfl⟩; obtain ⟨V3, hV3⟩ : ∃ V3, V2.setCell ⟨wr.heap.size, 2, none⟩ (.int .i64 X.fl) = V3 := ⟨_, rfl⟩; have HI3 := Lib.hid (show RInv w a V3 from by rw [← hV3, ← hV2, ← hV1]; exact ⟨st3_other hi1.1 (by omega) _ _ _, st3_other hi1.2.1 (by omega) _ _ _, st3_kept hi1.2.2 (.inr (by omega)) _ _ _⟩); have HX := Lib.hid (show V3.heap[wr.heap.size]? = some (.cells (cells3 X) 23 (0, 0)) from by rw [← hV3, ← hV2, ← hV1]; exact st3 hz1 _ _ _); obtain ⟨⟨z0, z0'⟩, ⟨z1, z1'⟩, z2, z2'⟩ := cells_of hz1; obtain ⟨⟨r0, -⟩, ⟨r1, r1'⟩, r2, r2'⟩ := cells_of (X := ⟨X.fg, 0, 0⟩) (show V1.heap[wr.heap.size]? = some (.cells (cells3 ⟨X.fg, 0, 0⟩) 23 (0, 0)) from by rw [← hV1]; exact blk_set hz1 0 _); obtain ⟨-, -, s2, s2'⟩ := cells_of (X := ⟨X.fg, X.bg, 0⟩) (show V2.heap[wr.heap.size]? = some (.cells (cells3 ⟨X.fg, X.bg, 0⟩) 23 (0, 0)) from by rw [← hV2, ← hV1]; exact blk_set (blk_set hz1 0 _) 1 _); obtain ⟨⟨c0, -⟩, ⟨c1, -⟩, c2, -⟩ := cells_of hi1.1; obtain ⟨⟨k0, k0'⟩, ⟨k1, k1'⟩, k2, k2'⟩ := cells_of HI3.out.1; clear hi1 h1 hz1 r0)))
            all_goals
              clear c0 c1 c2
              obtain ⟨⟨y0, -⟩, ⟨y1, -⟩, y2, -⟩ := cells_of HX.out
              obtain ⟨⟨d0, e0⟩, ⟨d1, e1⟩, d2, e2⟩ := cells_of HI3.out.2.1
              clear hV3
            all_goals go_wp2
            all_goals
              go_roundw
              case rel => exact ⟨i + k, X, by go_num, by omega, HIN.out, HI3.out.st3 _ _ _, HAP.out⟩
              case measure => simp [intOf]; omega
      by_cases z : n = 48
      · as_aux_lemma =>
          have hst : stp a n r = ({ a with bg := (far a.bg r).1 }, (far a.bg r).2) := by unfold stp; rw [if_neg (by omega), if_pos z]
          have hin2 := stp_in hin n hn r
          have q0 : (n == 0) = false := by simp; omega
          have q38 : (n == 38) = false := by simp; omega
          have q48 : (n == 48) = true := by simp; omega
          have hl' := lng_far a false r
          simp only [if_true, if_false, Bool.false_eq_true] at hl'
          have hA : Arg wr.heap.size wr (some ⟨b, off + i, none⟩) (len - i) (cap - i) (48 :: r) := by
            have h1 := (HA.out.kept HI.out.2.2 (fun _ h => h.elim)).drop i (by omega)
            rw [if_neg (by omega), hdr, z] at h1
            exact ⟨h1.1, h1.2.1, h1.2.2.1, fun b off h2 h3 => Nat.lt_of_lt_of_le (h1.2.2.2.1 b off h2 h3) HI.out.2.2.size, h1.2.2.2.2⟩
          obtain ⟨X, hXX⟩ : ∃ X, (lng a false r).1 = X := ⟨_, rfl⟩
          obtain ⟨u, hU⟩ : ∃ u, (lng a false r).2 = u := ⟨_, rfl⟩
          have HL : ∀ V, Kept (fun _ => False) wr V → Calls Try.prog 24 #[.agg #[.int .i64 a.fg, .int .i64 a.bg, .int .i64 a.fl], .slice (some ⟨b, off + i, none⟩) (len - i) (cap - i)] V fun e w' => e = .returned (.tuple #[.agg #[.int .i64 X.fg, .int .i64 X.bg, .int .i64 X.fl], .int .i64 u]) ∧ Kept (fun _ => False) V w' := fun (V : World) (hV : Kept (fun _ => False) wr V) => by
            have h1 := long_false a b (off + i) (len - i) (cap - i) r V (by have h2 := hA.kept hV (fun _ h => h.elim); exact ⟨h2.1, h2.2.1, h2.2.2.1, fun b off h3 h4 => Nat.lt_of_lt_of_le (h2.2.2.2.1 b off h3 h4) hV.size, h2.2.2.2.2⟩)
            rw [hXX, hU] at h1
            exact h1
          have HL := Lib.hid HL
          rw [hXX, hU] at hl'
          have u0 : (0 : Int) ≤ (i : Int) := by omega
          have u1 : (i : Int) ≤ (len : Int) := by omega
          have u2 : (i : Int) ≤ (cap : Int) := by omega
          have u3 : ¬ cap = i := by omega
          have u4 : (i : Int) < (cap : Int) := by omega
          rcases hl' with ⟨hu, hf⟩ | ⟨k, hu, hk3, hkl, hf, hX⟩
          · have hR : R = a := by rw [← hap, ap_cons, hst, hf, ap_nil]
            have HRR := Lib.hid hR
            rw [hu] at HL
            clear hu hf hst hin2 hap hin hA hR hrr hdr z hXX hU
            go_wp2_with fail
            refine (HC1.out _).mono ?_; rintro e w' ⟨rfl, rfl⟩
            go_wp2_with fail
            refine (HC2.out _).mono ?_; rintro e w' ⟨rfl, rfl⟩
            go_wp2
            go_region_held3 (fun w' => w'.cell? ⟨w.heap.size, 0, none⟩ = some (.int .i64 a.fg) ∧ w'.cell? ⟨w.heap.size, 1, none⟩ = some (.int .i64 a.bg) ∧ w'.cell? ⟨w.heap.size, 2, none⟩ = some (.int .i64 a.fl)) (first | ((go_keep; done)) | (go_split_ands; all_goals go_keep)) ((go_at_call 24; first
              | (refine Calls.mono (HL.out _ ((Kept.refl (fun _ => False) wr).drew)) ?_; rintro e w1 ⟨rfl, h1⟩; have hi1 := (HI.out.kept ((Kept.refl (fun _ => False) wr).drew)).kept h1; have hw1 : w.heap.size + 1 < w1.heap.size := lt_of_blk hi1.2.1; obtain ⟨V3, hV3⟩ : ∃ V3, w1.alloc (.cells #[.int .i64 X.fg, .int .i64 X.bg, .int .i64 X.fl] 23) = V3 := ⟨_, rfl⟩; have HI1 := Lib.hid hi1; have HI3 := Lib.hid (show RInv w a V3 from by rw [← hV3]; exact hi1.kept ((Kept.refl (fun _ => False) w1).alloc _)); have HX := Lib.hid (show V3.heap[w1.heap.size]? = some (.cells (cells3 X) 23 (0, 0)) from by rw [← hV3]; exact blk_new w1 _); obtain ⟨⟨c0, f0⟩, ⟨c1, f1⟩, c2, f2⟩ := cells_of hi1.1; obtain ⟨⟨k0, k0'⟩, ⟨k1, k1'⟩, k2, k2'⟩ := cells_of HI3.out.1; clear hi1 h1)
              | (refine Calls.mono (HL.out _ (by repeat (first | exact Kept.refl _ _ | refine Kept.drew ?_ | refine Kept.alloc ?_ _))) ?_; rintro e w1 ⟨rfl, h1⟩; have hz1 : w1.heap[wr.heap.size]? = some (.cells (cells3 ⟨0, 0, 0⟩) 23 (0, 0)) := h1.blk (show _ from blk_new wr (.cells #[.int .i64 0, .int .i64 0, .int .i64 0] 23)) id; have hi1 := (HI.out.kept (((Kept.refl (fun _ => False) wr).alloc (.cells #[.int .i64 0, .int .i64 0, .int .i64 0] 23)).drew)).kept h1; have hw1 : w.heap.size + 1 < wr.heap.size := lt_of_blk HI.out.2.1; obtain ⟨V1, hV1⟩ : ∃ V1, w1.setCell ⟨wr.heap.size, 0, none⟩ (.int .i64 X.fg) = V1 := ⟨_, rfl⟩; obtain ⟨V2, hV2⟩ : ∃ V2, V1.setCell ⟨wr.heap.size, 1, none⟩ (.int .i64 X.bg) = V2 := ⟨_, rfl⟩; obtain ⟨V3, hV3⟩ : ∃ V3, V2.setCell ⟨wr.heap.size, 2, none⟩ (.int .i64 X.fl) = V3 := ⟨_, rfl⟩; have HI3 := Lib.hid (show RInv w a V3 from by rw [← hV3, ← hV2, ← hV1]; exact ⟨st3_other hi1.1 (by omega) _ _ _, st3_other hi1.2.1 (by omega) _ _ _, st3_kept hi1.2.2 (.inr (by omega)) _ _ _⟩); have HX := Lib.hid (show V3.heap[wr.heap.size]? = some (.cells (cells3 X) 23 (0, 0)) from by rw [← hV3, ← hV2, ← hV1]; exact st3 hz1 _ _ _); obtain ⟨⟨z0, z0'⟩, ⟨z1, z1'⟩, z2, z2'⟩ := cells_of hz1; obtain ⟨⟨r0, -⟩, ⟨r1, r1'⟩, r2, r2'⟩ := cells_of (X := ⟨X.fg, 0, 0⟩) (show V1.heap[wr.heap.size]? = some (.cells (cells3 ⟨X.fg, 0, 0⟩) 23 (0, 0)) from by rw [← hV1]; exact blk_set hz1 0 _); obtain ⟨-, -, s2, s2'⟩ := cells_of (X := ⟨X.fg, X.bg, 0⟩) (show V2.heap[wr.heap.size]? = some (.cells (cells3 ⟨X.fg, X.bg, 0⟩) 23 (0, 0)) from by rw [← hV2, ← hV1]; exact blk_set (blk_set hz1 0 _) 1 _); obtain ⟨⟨c0, -⟩, ⟨c1, -⟩, c2, -⟩ := cells_of hi1.1; obtain ⟨⟨k0, k0'⟩, ⟨k1, k1'⟩, k2, k2'⟩ := cells_of HI3.out.1; clear hi1 h1 hz1 r0)))
            all_goals
              clear c0 c1 c2
              obtain ⟨⟨y0, -⟩, ⟨y1, -⟩, y2, -⟩ := cells_of HX.out
              obtain ⟨⟨d0, e0⟩, ⟨d1, e1⟩, d2, e2⟩ := cells_of HI3.out.2.1
              clear hV3
            all_goals go_wp2
            all_goals
              obtain ⟨⟨m0, -⟩, ⟨m1, -⟩, m2, -⟩ := cells_of (st3 HI3.out.2.1 a.fg a.bg a.fl)
              exact bodyPost_ret (v := .agg #[.int .i64 a.fg, .int .i64 a.bg, .int .i64 a.fl]) (by simp [results, Try.results10, go_sem, m0, m1, m2]) rfl ⟨by rw [HR.out, HRR.out], st3_kept HI3.out.2.2 (.inr (by omega)) _ _ _⟩
          · rw [hu] at HL
            rw [hst, hf] at hin2
            have hXe : { a with bg := X.bg } = X := by rw [hf] at hX; rw [hX]; rfl
            simp only [hXe] at hin2
            have HAP := Lib.hid (show ap X (l.drop (i + k)) = R by
              rw [← hap, ap_cons, hst, hf]
              simp only [hXe]
              congr 1
              rw [hrr, List.drop_drop]; congr 1; omega)
            have HIN := Lib.hid hin2
            have hkb : i + k ≤ len := by have := HRL.out; omega
            have k1 : (i : Int) + (k : Int) ≤ 9223372036854775807 := by omega
            have gk : decide ((k : Int) < 0) = false := decide_eq_false (by omega)
            clear hu hf hst hin2 hap hin hA hX hXX hU hXe hrr hdr z
            go_wp2_with fail
            refine (HC1.out _).mono ?_; rintro e w' ⟨rfl, rfl⟩
            go_wp2_with fail
            refine (HC2.out _).mono ?_; rintro e w' ⟨rfl, rfl⟩
            go_wp2
            go_region_held3 (fun w' => w'.cell? ⟨w.heap.size, 0, none⟩ = some (.int .i64 a.fg) ∧ w'.cell? ⟨w.heap.size, 1, none⟩ = some (.int .i64 a.bg) ∧ w'.cell? ⟨w.heap.size, 2, none⟩ = some (.int .i64 a.fl)) (first | ((go_keep; done)) | (go_split_ands; all_goals go_keep)) ((go_at_call 24; first
              | (refine Calls.mono (HL.out _ ((Kept.refl (fun _ => False) wr).drew)) ?_; rintro e w1 ⟨rfl, h1⟩; have hi1 := (HI.out.kept ((Kept.refl (fun _ => False) wr).drew)).kept h1; have hw1 : w.heap.size + 1 < w1.heap.size := lt_of_blk hi1.2.1; obtain ⟨V3, hV3⟩ : ∃ V3, w1.alloc (.cells #[.int .i64 X.fg, .int .i64 X.bg, .int .i64 X.fl] 23) = V3 := ⟨_, rfl⟩; have HI1 := Lib.hid hi1; have HI3 := Lib.hid (show RInv w a V3 from by rw [← hV3]; exact hi1.kept ((Kept.refl (fun _ => False) w1).alloc _)); have HX := Lib.hid (show V3.heap[w1.heap.size]? = some (.cells (cells3 X) 23 (0, 0)) from by rw [← hV3]; exact blk_new w1 _); obtain ⟨⟨c0, f0⟩, ⟨c1, f1⟩, c2, f2⟩ := cells_of hi1.1; obtain ⟨⟨k0, k0'⟩, ⟨k1, k1'⟩, k2, k2'⟩ := cells_of HI3.out.1; clear hi1 h1)
              | (refine Calls.mono (HL.out _ (by repeat (first | exact Kept.refl _ _ | refine Kept.drew ?_ | refine Kept.alloc ?_ _))) ?_; rintro e w1 ⟨rfl, h1⟩; have hz1 : w1.heap[wr.heap.size]? = some (.cells (cells3 ⟨0, 0, 0⟩) 23 (0, 0)) := h1.blk (show _ from blk_new wr (.cells #[.int .i64 0, .int .i64 0, .int .i64 0] 23)) id; have hi1 := (HI.out.kept (((Kept.refl (fun _ => False) wr).alloc (.cells #[.int .i64 0, .int .i64 0, .int .i64 0] 23)).drew)).kept h1; have hw1 : w.heap.size + 1 < wr.heap.size := lt_of_blk HI.out.2.1; obtain ⟨V1, hV1⟩ : ∃ V1, w1.setCell ⟨wr.heap.size, 0, none⟩ (.int .i64 X.fg) = V1 := ⟨_, rfl⟩; obtain ⟨V2, hV2⟩ : ∃ V2, V1.setCell ⟨wr.heap.size, 1, none⟩ (.int .i64 X.bg) = V2 := ⟨_, rfl⟩; obtain ⟨V3, hV3⟩ : ∃ V3, V2.setCell ⟨wr.heap.size, 2, none⟩ (.int .i64 X.fl) = V3 := ⟨_, rfl⟩; have HI3 := Lib.hid (show RInv w a V3 from by rw [← hV3, ← hV2, ← hV1]; exact ⟨st3_other hi1.1 (by omega) _ _ _, st3_other hi1.2.1 (by omega) _ _ _, st3_kept hi1.2.2 (.inr (by omega)) _ _ _⟩); have HX := Lib.hid (show V3.heap[wr.heap.size]? = some (.cells (cells3 X) 23 (0, 0)) from by rw [← hV3, ← hV2, ← hV1]; exact st3 hz1 _ _ _); obtain ⟨⟨z0, z0'⟩, ⟨z1, z1'⟩, z2, z2'⟩ := cells_of hz1; obtain ⟨⟨r0, -⟩, ⟨r1, r1'⟩, r2, r2'⟩ := cells_of (X := ⟨X.fg, 0, 0⟩) (show V1.heap[wr.heap.size]? = some (.cells (cells3 ⟨X.fg, 0, 0⟩) 23 (0, 0)) from by rw [← hV1]; exact blk_set hz1 0 _); obtain ⟨-, -, s2, s2'⟩ := cells_of (X := ⟨X.fg, X.bg, 0⟩) (show V2.heap[wr.heap.size]? = some (.cells (cells3 ⟨X.fg, X.bg, 0⟩) 23 (0, 0)) from by rw [← hV2, ← hV1]; exact blk_set (blk_set hz1 0 _) 1 _); obtain ⟨⟨c0, -⟩, ⟨c1, -⟩, c2, -⟩ := cells_of hi1.1; obtain ⟨⟨k0, k0'⟩, ⟨k1, k1'⟩, k2, k2'⟩ := cells_of HI3.out.1; clear hi1 h1 hz1 r0)))
            all_goals
              clear c0 c1 c2
              obtain ⟨⟨y0, -⟩, ⟨y1, -⟩, y2, -⟩ := cells_of HX.out
              obtain ⟨⟨d0, e0⟩, ⟨d1, e1⟩, d2, e2⟩ := cells_of HI3.out.2.1
              clear hV3
            all_goals go_wp2
            all_goals
              go_roundw
              case rel => exact ⟨i + k, X, by go_num, by omega, HIN.out, HI3.out.st3 _ _ _, HAP.out⟩
              case measure => simp [intOf]; omega
      have q0 : (n == 0) = false := by simp; omega
      have q38 : (n == 38) = false := by simp; omega
      have q48 : (n == 48) = false := by simp; omega
      by_cases z39 : n = 39
      · as_aux_lemma =>
          have hst : stp a n r = ({ a with fg := 0 }, r) := by unfold stp; rw [if_neg (by omega), if_neg (by omega), ← rone_eq hin]; unfold rone; rw [if_neg (by omega), if_pos z39]
          have HAP := Lib.hid (show ap { a with fg := 0 } (l.drop (i + 1)) = R by rw [← hap, ap_cons, hst, hrr])
          have HIN := Lib.hid (show ({ a with fg := 0 } : Look).In by have h := stp_in hin n hn r; rw [hst] at h; exact h)
          have q39 : (n == 39) = true := by simp; omega
          clear hst hap hin z39
          go_wp2_with fail
          refine (HC1.out _).mono ?_; rintro e w' ⟨rfl, rfl⟩
          go_wp2_with fail
          refine (HC2.out _).mono ?_; rintro e w' ⟨rfl, rfl⟩
          go_wp2
          go_roundw
          case rel => exact ⟨i + 1, _, by go_num, by omega, HIN.out, HI.out.set 0 _ (by simp [cells3]), HAP.out⟩
          case measure => simp [intOf]; omega
      by_cases z49 : n = 49
      · as_aux_lemma =>
          have hst : stp a n r = ({ a with bg := 0 }, r) := by unfold stp; rw [if_neg (by omega), if_neg (by omega), ← rone_eq hin]; unfold rone; rw [if_neg (by omega), if_neg (by omega), if_pos z49]
          have HAP := Lib.hid (show ap { a with bg := 0 } (l.drop (i + 1)) = R by rw [← hap, ap_cons, hst, hrr])
          have HIN := Lib.hid (show ({ a with bg := 0 } : Look).In by have h := stp_in hin n hn r; rw [hst] at h; exact h)
          have q39 : (n == 39) = false := by simp; omega
          have q49 : (n == 49) = true := by simp; omega
          clear hst hap hin z49
          go_wp2_with fail
          refine (HC1.out _).mono ?_; rintro e w' ⟨rfl, rfl⟩
          go_wp2_with fail
          refine (HC2.out _).mono ?_; rintro e w' ⟨rfl, rfl⟩
          go_wp2
          go_roundw
          case rel => exact ⟨i + 1, _, by go_num, by omega, HIN.out, HI.out.set 1 _ (by simp [cells3]), HAP.out⟩
          case measure => simp [intOf]; omega
      have q39 : (n == 39) = false := by simp; omega
      have q49 : (n == 49) = false := by simp; omega
      by_cases gc : 0 ≤ colN n
      · as_aux_lemma =>
          obtain ⟨c, hc⟩ : ∃ c, colN n = c := ⟨_, rfl⟩
          have hcl := col_lt n
          rw [hc] at hcl
          cases hfo : foreB n with
          | true =>
            have hst : stp a n r = ({ a with fg := 16777216 + c }, r) := by unfold stp; rw [if_neg (by omega), if_neg (by omega), ← rone_eq hin]; unfold rone; rw [if_neg (by omega), if_neg (by omega), if_neg (by omega), if_pos gc, hc, hfo]; rfl
            have HAP := Lib.hid (show ap { a with fg := 16777216 + c } (l.drop (i + 1)) = R by rw [← hap, ap_cons, hst, hrr])
            have HIN := Lib.hid (show ({ a with fg := 16777216 + c } : Look).In by have h := stp_in hin n hn r; rw [hst] at h; exact h)
            rw [hc] at gc HC1
            rw [hfo] at HC1
            have g1 : decide (0 ≤ c) = true := decide_eq_true gc
            have hor : bits .or .i64 16777216 c = 16777216 + c := or_sum 8 _ _ (by omega) (by omega) (by decide) (by omega)
            have HS := Lib.hid (show ∀ w, Calls Try.prog 25 #[lookV a, .int .i64 (16777216 + c), .bool true] w fun e w' => e = .returned (lookV { a with fg := 16777216 + c }) ∧ Kept (fun _ => False) w w' from fun w => set_any a (16777216 + c) true w)
            unfold lookV at HS
            clear hst hap hin hc hfo gc
            go_wp2_with fail
            refine (HC1.out _).mono ?_; rintro e w' ⟨rfl, rfl⟩
            go_wp2_with fail
            refine (HC2.out _).mono ?_; rintro e w' ⟨rfl, rfl⟩
            go_wp2_with fail
            refine (HS.out _).mono ?_; rintro e w1 ⟨rfl, h1⟩
            have hi1 := HI.out.kept h1
            obtain ⟨⟨c0, f0⟩, ⟨c1, f1⟩, c2, f2⟩ := cells_of hi1.1
            have HI1 := Lib.hid hi1
            clear h1 hi1
            go_wp2
            go_roundw
            case rel => exact ⟨i + 1, _, by go_num, by omega, HIN.out, HI1.out.st3 (16777216 + c) a.bg a.fl, HAP.out⟩
            case measure => simp [intOf]; omega
          | false =>
            have hst : stp a n r = ({ a with bg := 16777216 + c }, r) := by unfold stp; rw [if_neg (by omega), if_neg (by omega), ← rone_eq hin]; unfold rone; rw [if_neg (by omega), if_neg (by omega), if_neg (by omega), if_pos gc, hc, hfo]; rfl
            have HAP := Lib.hid (show ap { a with bg := 16777216 + c } (l.drop (i + 1)) = R by rw [← hap, ap_cons, hst, hrr])
            have HIN := Lib.hid (show ({ a with bg := 16777216 + c } : Look).In by have h := stp_in hin n hn r; rw [hst] at h; exact h)
            rw [hc] at gc HC1
            rw [hfo] at HC1
            have g1 : decide (0 ≤ c) = true := decide_eq_true gc
            have hor : bits .or .i64 16777216 c = 16777216 + c := or_sum 8 _ _ (by omega) (by omega) (by decide) (by omega)
            have HS := Lib.hid (show ∀ w, Calls Try.prog 25 #[lookV a, .int .i64 (16777216 + c), .bool false] w fun e w' => e = .returned (lookV { a with bg := 16777216 + c }) ∧ Kept (fun _ => False) w w' from fun w => set_any a (16777216 + c) false w)
            unfold lookV at HS
            clear hst hap hin hc hfo gc
            go_wp2_with fail
            refine (HC1.out _).mono ?_; rintro e w' ⟨rfl, rfl⟩
            go_wp2_with fail
            refine (HC2.out _).mono ?_; rintro e w' ⟨rfl, rfl⟩
            go_wp2_with fail
            refine (HS.out _).mono ?_; rintro e w1 ⟨rfl, h1⟩
            have hi1 := HI.out.kept h1
            obtain ⟨⟨c0, f0⟩, ⟨c1, f1⟩, c2, f2⟩ := cells_of hi1.1
            have HI1 := Lib.hid hi1
            clear h1 hi1
            go_wp2
            go_roundw
            case rel => exact ⟨i + 1, _, by go_num, by omega, HIN.out, HI1.out.st3 a.fg (16777216 + c) a.fl, HAP.out⟩
            case measure => simp [intOf]; omega
      have g1 : decide (0 ≤ colN n) = false := decide_eq_false gc
      obtain ⟨c, hc⟩ : ∃ c, colN n = c := ⟨_, rfl⟩
      rw [hc] at HC1 g1
      obtain ⟨fo, hfo⟩ : ∃ fo, foreB n = fo := ⟨_, rfl⟩
      rw [hfo] at HC1
      by_cases hf : flag2 n = 0
      · as_aux_lemma =>
          have hst : stp a n r = (a, r) := by unfold stp; rw [if_neg (by omega), if_neg (by omega), ← rone_eq hin]; unfold rone; rw [if_neg (by omega), if_neg (by omega), if_neg (by omega), if_neg gc, if_pos hf]
          have HAP := Lib.hid (show ap a (l.drop (i + 1)) = R by rw [← hap, ap_cons, hst, hrr])
          have HIN := Lib.hid (show (a : Look).In by have h := stp_in hin n hn r; rw [hst] at h; exact h)
          rw [hf] at HC2
          obtain ⟨on, hon⟩ : ∃ on, onB n = on := ⟨_, rfl⟩
          rw [hon] at HC2
          clear hst hap hin hc hfo gc hf hon
          go_wp2_with fail
          refine (HC1.out _).mono ?_; rintro e w' ⟨rfl, rfl⟩
          go_wp2_with fail
          refine (HC2.out _).mono ?_; rintro e w' ⟨rfl, rfl⟩
          go_wp2
          go_roundw
          case rel => exact ⟨i + 1, _, by go_num, by omega, HIN.out, HI.out, HAP.out⟩
          case measure => simp [intOf]; omega
      obtain ⟨f, hff⟩ : ∃ f, flag2 n = f := ⟨_, rfl⟩
      rw [hff] at HC2 hf
      have qf : (f != 0) = true := by simpa using hf
      have qf2 : (f == 0) = false := by simpa using hf
      cases hon : onB n with
      | true =>
        as_aux_lemma =>
          have hst : stp a n r = ({ a with fl := orI a.fl f }, r) := by unfold stp; rw [if_neg (by omega), if_neg (by omega), ← rone_eq hin]; unfold rone; rw [if_neg (by omega), if_neg (by omega), if_neg (by omega), if_neg gc, hff, if_neg hf, if_pos hon]
          have HAP := Lib.hid (show ap { a with fl := orI a.fl f } (l.drop (i + 1)) = R by rw [← hap, ap_cons, hst, hrr])
          have HIN := Lib.hid (show ({ a with fl := orI a.fl f } : Look).In by have h := stp_in hin n hn r; rw [hst] at h; exact h)
          rw [hon] at HC2
          clear hst hap hin hc hfo gc hf hff hon
          go_wp2_with fail
          refine (HC1.out _).mono ?_; rintro e w' ⟨rfl, rfl⟩
          go_wp2_with fail
          refine (HC2.out _).mono ?_; rintro e w' ⟨rfl, rfl⟩
          go_wp2
          go_roundw
          case rel => exact ⟨i + 1, _, by go_num, by omega, HIN.out, HI.out.set 2 _ (by simp [cells3, orI]), HAP.out⟩
          case measure => simp [intOf]; omega
      | false =>
        as_aux_lemma =>
          have hst : stp a n r = ({ a with fl := subI a.fl f }, r) := by unfold stp; rw [if_neg (by omega), if_neg (by omega), ← rone_eq hin]; unfold rone; rw [if_neg (by omega), if_neg (by omega), if_neg (by omega), if_neg gc, hff, if_neg hf, if_neg (by rw [hon]; simp)]
          have HAP := Lib.hid (show ap { a with fl := subI a.fl f } (l.drop (i + 1)) = R by rw [← hap, ap_cons, hst, hrr])
          have HIN := Lib.hid (show ({ a with fl := subI a.fl f } : Look).In by have h := stp_in hin n hn r; rw [hst] at h; exact h)
          rw [hon] at HC2
          clear hst hap hin hc hfo gc hf hff hon
          go_wp2_with fail
          refine (HC1.out _).mono ?_; rintro e w' ⟨rfl, rfl⟩
          go_wp2_with fail
          refine (HC2.out _).mono ?_; rintro e w' ⟨rfl, rfl⟩
          go_wp2
          go_roundw
          case rel => exact ⟨i + 1, _, by go_num, by omega, HIN.out, HI.out.set 2 _ (by simp [cells3, subI]), HAP.out⟩
          case measure => simp [intOf]; omega
    · have hl0 : i = len := by omega
      subst hl0
      rw [List.drop_of_length_le (by omega), ap_nil] at hap
      have gl : decide (i < i) = false := decide_eq_false (by omega)
      have HAP := Lib.hid hap
      clear hin hap hi
      go_wp2
      obtain ⟨⟨m0, -⟩, ⟨m1, -⟩, m2, -⟩ := cells_of (st3 HI.out.2.1 a.fg a.bg a.fl)
      exact bodyPost_ret (v := .agg #[.int .i64 a.fg, .int .i64 a.bg, .int .i64 a.fl]) (by simp [results, Try.results10, go_sem, m0, m1, m2]) rfl ⟨by rw [HR.out, ← HAP.out], st3_kept HI.out.2.2 (.inr (by omega)) _ _ _⟩

end Go.Proofs.Ytdcbaobipogmnaa
