/- Parameters applied: the program's. -/
import Derived.Test.YtdcbaobipogmnaaFar
import Derived.Deep.RegionWith
namespace Go.Proofs.Ytdcbaobipogmnaa
open Go.RowKit Pl
set_option linter.unusedVariables false
/-- What holds of memory while parameters are applied: the attribute, the result to come. -/
def Inv (w : World) (a : Look) (wr : World) : Prop :=
  wr.heap[w.heap.size]? = some (.cells (cells3 a) 23 (0, 0)) ∧ wr.heap[w.heap.size + 1]? = some (.cells (cells3 ⟨0, 0, 0⟩) 23 (0, 0)) ∧ Kept (fun _ => False) w wr
theorem Inv.drew {w : World} {a : Look} {wr : World} (h : Inv w a wr) : Inv w a wr.drew := ⟨h.1, h.2.1, h.2.2.drew⟩
theorem Inv.set {w : World} {a X : Look} {wr : World} (h : Inv w a wr) (i : Nat) (v : Value) (hX : cells3 X = (cells3 a).setIfInBounds i v) : Inv w X (wr.setCell ⟨w.heap.size, i, none⟩ v) := by
  refine ⟨?_, blk_set_other h.2.1 (by simp) v, h.2.2.setCell (p := ⟨w.heap.size, i, none⟩) (.inr (Nat.le_refl _)) v⟩
  rw [hX]; exact blk_set h.1 i v
theorem Inv.far {w : World} {a X : Look} {wr w2 : World} (h : Inv w a wr) (hb : w2.heap[w.heap.size]? = some (.cells (cells3 X) 23 (0, 0))) (hk : Kept (· = w.heap.size) wr w2) : Inv w X w2 :=
  ⟨hb, hk.blk h.2.1 (by simp), h.2.2.trans (hk.mono fun i _ hi => Or.inr (by have h9 : i = w.heap.size := hi; omega))⟩
theorem Arg.set {w : World} {B : Nat} {wr : World} {a : Option Addr} {len cap : Nat} {l : List Int} (h : Arg B wr a len cap l) (p i : Nat) (hp : B ≤ p) (v : Value) : Arg B (wr.setCell ⟨p, i, none⟩ v) a len cap l :=
  h.kept ((Kept.refl (fun i => i = p) wr).setCell (p := ⟨p, i, none⟩) (.inl rfl) v) (fun i hi => by have h9 : i = p := hi; omega)
theorem Arg.drew {B : Nat} {wr : World} {a : Option Addr} {len cap : Nat} {l : List Int} (h : Arg B wr a len cap l) : Arg B wr.drew a len cap l :=
  h.kept (Kept.refl (fun _ => False) wr).drew (fun i hi => hi.elim)
theorem Arg.head {B : Nat} {wr : World} {a : Option Addr} {len cap : Nat} {l : List Int} (h : Arg B wr a len cap l) (h0 : 0 < len) : ∃ b off n r, a = some ⟨b, off, none⟩ ∧ l = n :: r ∧ wr.cell? ⟨b, off, none⟩ = some (.int .i64 n) ∧ In n ∧ r.length = len - 1 := by
  obtain ⟨b, off, rfl, hc⟩ := h.1.2.resolve_left (by omega)
  have hl := h.1.1
  cases l with
  | nil => simp at hl; omega
  | cons n r => exact ⟨b, off, n, r, rfl, rfl, by simpa using hc 0 h0, h.2.2.2.2 n (by simp), by simp at hl; omega⟩
def AppRel (w : World) (R : Look) (v : Value) (wr : World) : Prop :=
  ∃ a l ad len cap, v = .slice ad len cap ∧ Arg w.heap.size wr ad len cap l ∧ a.In ∧ Inv w a wr ∧ ap a l = R
def lenV : Value → Nat
  | .slice _ n _ => n
  | _ => 0

set_option maxRecDepth 100000 in
set_option maxHeartbeats 16000000 in
theorem apply_some (a : Look) (ad : Option Addr) (len cap : Nat) (l : List Int) (w : World) (h : Arg w.heap.size w ad len cap l) (ha : a.In) (h0 : 0 < len) :
    Calls Try.prog 9 #[lookV a, .slice ad len cap] w fun e w' => e = .returned (lookV (ap a l)) ∧ Kept (fun _ => False) w w' := by
  have q0 : ((len : Int) == 0) = false := by simp; omega
  have hlc := h.2.1
  have hcm := h.2.2.1
  have ka : Kept (fun _ => False) w ((w.alloc (.cells (cells3 a) 23)).alloc (.cells (cells3 ⟨0, 0, 0⟩) 23)) := ((Kept.refl _ w).alloc _).alloc _
  have hi : Inv w a ((w.alloc (.cells (cells3 a) 23)).alloc (.cells (cells3 ⟨0, 0, 0⟩) 23)) := ⟨blk_alloc (blk_new w _) _, blk_at _ _ (by simp), ka⟩
  have HI0 := Lib.hid hi
  have HA0 := Lib.hid (h.kept ka (fun i hi => hi.elim))
  obtain ⟨R, hR⟩ : ∃ R, ap a l = R := ⟨_, rfl⟩
  have HR := Lib.hid hR
  have HIN := Lib.hid ha
  clear ka hi h hR ha
  unfold lookV
  go_enter Try.func9, Try.ntmps9
  go_wp2
  go_loopw [5] (fun v wr => AppRel w R v wr) (fun v _ => lenV v)
  case atStart => exact ⟨a, l, ad, len, cap, rfl, HA0.out, HIN.out, HI0.out, HR.out⟩
  case round =>
    obtain ⟨a, l, ad, len, cap, rfl, hg, hin, hi, hap⟩ := hrel
    obtain ⟨⟨c0, f0⟩, ⟨c1, f1⟩, c2, f2⟩ := blk3 hi.1
    obtain ⟨⟨d0, e0⟩, ⟨d1, e1⟩, d2, e2⟩ := blk3 hi.2.1
    have HI := Lib.hid hi
    have hlc := hg.2.1
    have hcm := hg.2.2.1
    clear hi
    by_cases hl : 0 < len
    · obtain ⟨b, off, n, r, rfl, rfl, cn, hn, hrl⟩ := hg.head hl
      have HD := Lib.hid (hg.drop 1 hl)
      have HD0 := Lib.hid (hg.drop0 1 hl)
      have HD1 := Lib.hid (hg.drop1 1 hl)
      clear hg
      have hn' := hn
      unfold In at hn'
      by_cases hcase : n = 0
      · as_aux_lemma =>
          have hst : stp a n r = (⟨0, 0, 0⟩, r) := by
            unfold stp one; (repeat (first | rw [if_pos (by omega)] | rw [if_neg (by omega)]))
          have HAP := Lib.hid (show ap ⟨0, 0, 0⟩ r = R by rw [← hap, ap_cons, hst])
          have HIN := Lib.hid (show (⟨0, 0, 0⟩ : Look).In by have h := stp_in hin n hn r; rw [hst] at h; exact h)
          clear hst hap hin
          have q22 : (n == 22) = false := by simp; omega
          have q39 : (n == 39) = false := by simp; omega
          have q49 : (n == 49) = false := by simp; omega
          have q48 : (n == 48) = false := by simp; omega
          have q38 : (n == 38) = false := by simp; omega
          subst hcase
          go_wp2
          all_goals
            go_roundw
            case rel => exact ⟨_, r, _, _, _, rfl, (by first | exact (((HD.out.set (w := w) w.heap.size 0 (Nat.le_refl _) _).set (w := w) w.heap.size 1 (Nat.le_refl _) _).set (w := w) w.heap.size 2 (Nat.le_refl _) _) | exact ((((HD0.out (by first | assumption | omega)).set (w := w) w.heap.size 0 (Nat.le_refl _) _).set (w := w) w.heap.size 1 (Nat.le_refl _) _).set (w := w) w.heap.size 2 (Nat.le_refl _) _) | exact ((((HD1.out (by first | assumption | omega)).set (w := w) w.heap.size 0 (Nat.le_refl _) _).set (w := w) w.heap.size 1 (Nat.le_refl _) _).set (w := w) w.heap.size 2 (Nat.le_refl _) _)), HIN.out, (((HI.out.set (X := ⟨0, a.bg, a.fl⟩) 0 _ (by simp [cells3])).set (X := ⟨0, 0, a.fl⟩) 1 _ (by simp [cells3])).set 2 _ (by simp [cells3])), HAP.out⟩
            case measure => simp [lenV] at *; omega
      by_cases hcase : 1 ≤ n ∧ n ≤ 9
      · as_aux_lemma =>
          have hst : stp a n r = ({ a with fl := orI a.fl (flagN n) }, r) := by
            unfold stp one; (repeat (first | rw [if_pos (by omega)] | rw [if_neg (by omega)]))
          have HAP := Lib.hid (show ap { a with fl := orI a.fl (flagN n) } r = R by rw [← hap, ap_cons, hst])
          have HIN := Lib.hid (show ({ a with fl := orI a.fl (flagN n) } : Look).In by have h := stp_in hin n hn r; rw [hst] at h; exact h)
          clear hst hap hin
          have q0 : (n == 0) = false := by simp; omega
          have q22 : (n == 22) = false := by simp; omega
          have q39 : (n == 39) = false := by simp; omega
          have q49 : (n == 49) = false := by simp; omega
          have q48 : (n == 48) = false := by simp; omega
          have q38 : (n == 38) = false := by simp; omega
          have HF := Lib.hid (show ∀ w, Calls Try.prog 20 #[.int .i64 n] w fun e w' => e = .returned (.int .i64 (flagN n)) ∧ w = w' from fun w => flag_any n w)
          have hx := c2
          have hxf := f2
          go_wp2
          all_goals go_region_with (go_at_call 20; refine (HF.out _).mono ?_; rintro e w' ⟨rfl, rfl⟩)
          all_goals go_wp2
          all_goals
            go_roundw
            case rel => exact ⟨_, r, _, _, _, rfl, (by first | exact ((HD.out.set (w := w) w.heap.size 2 (Nat.le_refl _) _).drew) | exact (((HD0.out (by first | assumption | omega)).set (w := w) w.heap.size 2 (Nat.le_refl _) _).drew) | exact (((HD1.out (by first | assumption | omega)).set (w := w) w.heap.size 2 (Nat.le_refl _) _).drew)), HIN.out, ((HI.out.set 2 _ (by simp [cells3, orI])).drew), HAP.out⟩
            case measure => simp [lenV] at *; omega
      by_cases hcase : n = 22
      · as_aux_lemma =>
          have hst : stp a n r = ({ a with fl := subI (subI a.fl 1) (flagN (n - 20)) }, r) := by
            subst hcase; rfl
          have HAP := Lib.hid (show ap { a with fl := subI (subI a.fl 1) (flagN (n - 20)) } r = R by rw [← hap, ap_cons, hst])
          have HIN := Lib.hid (show ({ a with fl := subI (subI a.fl 1) (flagN (n - 20)) } : Look).In by have h := stp_in hin n hn r; rw [hst] at h; exact h)
          clear hst hap hin
          have q0 : (n == 0) = false := by simp; omega
          have q39 : (n == 39) = false := by simp; omega
          have q49 : (n == 49) = false := by simp; omega
          have q48 : (n == 48) = false := by simp; omega
          have q38 : (n == 38) = false := by simp; omega
          have q22 : (n == 22) = true := by simp; omega
          have b1 : 22 ≤ n := by omega
          have b2 : n ≤ 22 := by omega
          clear hcase
          have HF := Lib.hid (show ∀ w, Calls Try.prog 20 #[.int .i64 (n - 20)] w fun e w' => e = .returned (.int .i64 (flagN (n - 20))) ∧ w = w' from fun w => flag_any (n - 20) w)
          have e1 : IntKind.i64.wrap (n - 20) = n - 20 := IntWalk.i64_in _ (by omega)
          obtain ⟨W1, hW1⟩ : ∃ W1, wr.setCell ⟨w.heap.size, 2, none⟩ (.int .i64 (bits BinOp.andNot .i64 a.fl 1)) = W1 := ⟨_, rfl⟩
          have hi1 : Inv w { a with fl := subI a.fl 1 } W1 := by rw [← hW1]; exact HI.out.set 2 _ (by simp [cells3, subI])
          have HD0' := Lib.hid (show cap = 1 → Arg w.heap.size W1 (some ⟨b, off, none⟩) (len - 1) 0 r from fun hc => by rw [← hW1]; exact (HD0.out hc).set (w := w) w.heap.size 2 (Nat.le_refl _) _)
          have HD1' := Lib.hid (show ¬ cap = 1 → Arg w.heap.size W1 (some ⟨b, off + 1, none⟩) (len - 1) (cap - 1) r from fun hc => by rw [← hW1]; exact (HD1.out hc).set (w := w) w.heap.size 2 (Nat.le_refl _) _)
          obtain ⟨y, hy⟩ : ∃ y, subI a.fl 1 = y := ⟨_, rfl⟩
          rw [hy] at hi1 HAP HIN
          have hy' : bits BinOp.andNot .i64 a.fl 1 = y := hy
          obtain ⟨⟨y0, z0⟩, ⟨y1, z1⟩, y2, z2⟩ := blk3 hi1.1
          have HI1 := Lib.hid hi1
          rw [hy'] at hW1
          clear hi1 hy
          go_wp2
          all_goals as_aux_lemma =>
            clear hW1 c0 f0 c1 f1 c2 f2
            go_region_with (go_at_call 20; refine (HF.out _).mono ?_; rintro e w' ⟨rfl, rfl⟩)
            all_goals go_wp2
            all_goals
              go_roundw
              case rel => exact ⟨_, r, _, _, _, rfl, (by first | exact (((HD0'.out (by assumption)).set (w := w) w.heap.size 2 (Nat.le_refl _) _).drew) | exact (((HD1'.out (by assumption)).set (w := w) w.heap.size 2 (Nat.le_refl _) _).drew)), HIN.out, ((HI1.out.set 2 _ (by simp [cells3, subI])).drew), HAP.out⟩
              case measure => simp [lenV] at *; omega
      by_cases hcase : 23 ≤ n ∧ n ≤ 29
      · as_aux_lemma =>
          have hst : stp a n r = ({ a with fl := subI a.fl (flagN (n - 20)) }, r) := by
            unfold stp one; (repeat (first | rw [if_pos (by omega)] | rw [if_neg (by omega)]))
          have HAP := Lib.hid (show ap { a with fl := subI a.fl (flagN (n - 20)) } r = R by rw [← hap, ap_cons, hst])
          have HIN := Lib.hid (show ({ a with fl := subI a.fl (flagN (n - 20)) } : Look).In by have h := stp_in hin n hn r; rw [hst] at h; exact h)
          clear hst hap hin
          have q0 : (n == 0) = false := by simp; omega
          have q22 : (n == 22) = false := by simp; omega
          have q39 : (n == 39) = false := by simp; omega
          have q49 : (n == 49) = false := by simp; omega
          have q48 : (n == 48) = false := by simp; omega
          have q38 : (n == 38) = false := by simp; omega
          have HF := Lib.hid (show ∀ w, Calls Try.prog 20 #[.int .i64 (n - 20)] w fun e w' => e = .returned (.int .i64 (flagN (n - 20))) ∧ w = w' from fun w => flag_any (n - 20) w)
          have e1 : IntKind.i64.wrap (n - 20) = n - 20 := IntWalk.i64_in _ (by omega)
          go_wp2
          all_goals go_region_with (go_at_call 20; refine (HF.out _).mono ?_; rintro e w' ⟨rfl, rfl⟩)
          all_goals go_wp2
          all_goals
            go_roundw
            case rel => exact ⟨_, r, _, _, _, rfl, (by first | exact ((HD.out.set (w := w) w.heap.size 2 (Nat.le_refl _) _).drew) | exact (((HD0.out (by first | assumption | omega)).set (w := w) w.heap.size 2 (Nat.le_refl _) _).drew) | exact (((HD1.out (by first | assumption | omega)).set (w := w) w.heap.size 2 (Nat.le_refl _) _).drew)), HIN.out, ((HI.out.set 2 _ (by simp [cells3, subI])).drew), HAP.out⟩
            case measure => simp [lenV] at *; omega
      by_cases hcase : 40 ≤ n ∧ n ≤ 47
      · as_aux_lemma =>
          have hst : stp a n r = ({ a with bg := 16777216 + (n - 40) }, r) := by
            unfold stp one; (repeat (first | rw [if_pos (by omega)] | rw [if_neg (by omega)]))
          have HAP := Lib.hid (show ap { a with bg := 16777216 + (n - 40) } r = R by rw [← hap, ap_cons, hst])
          have HIN := Lib.hid (show ({ a with bg := 16777216 + (n - 40) } : Look).In by have h := stp_in hin n hn r; rw [hst] at h; exact h)
          clear hst hap hin
          have q0 : (n == 0) = false := by simp; omega
          have q22 : (n == 22) = false := by simp; omega
          have q39 : (n == 39) = false := by simp; omega
          have q49 : (n == 49) = false := by simp; omega
          have q48 : (n == 48) = false := by simp; omega
          have q38 : (n == 38) = false := by simp; omega
          go_wp2
          all_goals
            go_roundw
            case rel => exact ⟨_, r, _, _, _, rfl, (by first | exact (HD.out.set (w := w) w.heap.size 1 (Nat.le_refl _) _) | exact ((HD0.out (by first | assumption | omega)).set (w := w) w.heap.size 1 (Nat.le_refl _) _) | exact ((HD1.out (by first | assumption | omega)).set (w := w) w.heap.size 1 (Nat.le_refl _) _)), HIN.out, (HI.out.set 1 _ (by simp [cells3] <;> omega)), HAP.out⟩
            case measure => simp [lenV] at *; omega
      by_cases hcase : 30 ≤ n ∧ n ≤ 37
      · as_aux_lemma =>
          have hst : stp a n r = ({ a with fg := 16777216 + (n - 30) }, r) := by
            unfold stp one; (repeat (first | rw [if_pos (by omega)] | rw [if_neg (by omega)]))
          have HAP := Lib.hid (show ap { a with fg := 16777216 + (n - 30) } r = R by rw [← hap, ap_cons, hst])
          have HIN := Lib.hid (show ({ a with fg := 16777216 + (n - 30) } : Look).In by have h := stp_in hin n hn r; rw [hst] at h; exact h)
          clear hst hap hin
          have q0 : (n == 0) = false := by simp; omega
          have q22 : (n == 22) = false := by simp; omega
          have q39 : (n == 39) = false := by simp; omega
          have q49 : (n == 49) = false := by simp; omega
          have q48 : (n == 48) = false := by simp; omega
          have q38 : (n == 38) = false := by simp; omega
          go_wp2
          all_goals
            go_roundw
            case rel => exact ⟨_, r, _, _, _, rfl, (by first | exact (HD.out.set (w := w) w.heap.size 0 (Nat.le_refl _) _) | exact ((HD0.out (by first | assumption | omega)).set (w := w) w.heap.size 0 (Nat.le_refl _) _) | exact ((HD1.out (by first | assumption | omega)).set (w := w) w.heap.size 0 (Nat.le_refl _) _)), HIN.out, (HI.out.set 0 _ (by simp [cells3] <;> omega)), HAP.out⟩
            case measure => simp [lenV] at *; omega
      by_cases hcase : 100 ≤ n ∧ n ≤ 107
      · as_aux_lemma =>
          have hst : stp a n r = ({ a with bg := 16777224 + (n - 100) }, r) := by
            unfold stp one; (repeat (first | rw [if_pos (by omega)] | rw [if_neg (by omega)]))
          have HAP := Lib.hid (show ap { a with bg := 16777224 + (n - 100) } r = R by rw [← hap, ap_cons, hst])
          have HIN := Lib.hid (show ({ a with bg := 16777224 + (n - 100) } : Look).In by have h := stp_in hin n hn r; rw [hst] at h; exact h)
          clear hst hap hin
          have q0 : (n == 0) = false := by simp; omega
          have q22 : (n == 22) = false := by simp; omega
          have q39 : (n == 39) = false := by simp; omega
          have q49 : (n == 49) = false := by simp; omega
          have q48 : (n == 48) = false := by simp; omega
          have q38 : (n == 38) = false := by simp; omega
          go_wp2
          all_goals
            go_roundw
            case rel => exact ⟨_, r, _, _, _, rfl, (by first | exact (HD.out.set (w := w) w.heap.size 1 (Nat.le_refl _) _) | exact ((HD0.out (by first | assumption | omega)).set (w := w) w.heap.size 1 (Nat.le_refl _) _) | exact ((HD1.out (by first | assumption | omega)).set (w := w) w.heap.size 1 (Nat.le_refl _) _)), HIN.out, (HI.out.set 1 _ (by simp [cells3] <;> omega)), HAP.out⟩
            case measure => simp [lenV] at *; omega
      by_cases hcase : 90 ≤ n ∧ n ≤ 97
      · as_aux_lemma =>
          have hst : stp a n r = ({ a with fg := 16777224 + (n - 90) }, r) := by
            unfold stp one; (repeat (first | rw [if_pos (by omega)] | rw [if_neg (by omega)]))
          have HAP := Lib.hid (show ap { a with fg := 16777224 + (n - 90) } r = R by rw [← hap, ap_cons, hst])
          have HIN := Lib.hid (show ({ a with fg := 16777224 + (n - 90) } : Look).In by have h := stp_in hin n hn r; rw [hst] at h; exact h)
          clear hst hap hin
          have q0 : (n == 0) = false := by simp; omega
          have q22 : (n == 22) = false := by simp; omega
          have q39 : (n == 39) = false := by simp; omega
          have q49 : (n == 49) = false := by simp; omega
          have q48 : (n == 48) = false := by simp; omega
          have q38 : (n == 38) = false := by simp; omega
          go_wp2
          all_goals
            go_roundw
            case rel => exact ⟨_, r, _, _, _, rfl, (by first | exact (HD.out.set (w := w) w.heap.size 0 (Nat.le_refl _) _) | exact ((HD0.out (by first | assumption | omega)).set (w := w) w.heap.size 0 (Nat.le_refl _) _) | exact ((HD1.out (by first | assumption | omega)).set (w := w) w.heap.size 0 (Nat.le_refl _) _)), HIN.out, (HI.out.set 0 _ (by simp [cells3] <;> omega)), HAP.out⟩
            case measure => simp [lenV] at *; omega
      by_cases hcase : n = 39
      · as_aux_lemma =>
          have hst : stp a n r = ({ a with fg := 0 }, r) := by
            unfold stp one; (repeat (first | rw [if_pos (by omega)] | rw [if_neg (by omega)]))
          have HAP := Lib.hid (show ap { a with fg := 0 } r = R by rw [← hap, ap_cons, hst])
          have HIN := Lib.hid (show ({ a with fg := 0 } : Look).In by have h := stp_in hin n hn r; rw [hst] at h; exact h)
          clear hst hap hin
          have q0 : (n == 0) = false := by simp; omega
          have q22 : (n == 22) = false := by simp; omega
          have q49 : (n == 49) = false := by simp; omega
          have q48 : (n == 48) = false := by simp; omega
          have q38 : (n == 38) = false := by simp; omega
          subst hcase
          go_wp2
          all_goals
            go_roundw
            case rel => exact ⟨_, r, _, _, _, rfl, (by first | exact (HD.out.set (w := w) w.heap.size 0 (Nat.le_refl _) _) | exact ((HD0.out (by first | assumption | omega)).set (w := w) w.heap.size 0 (Nat.le_refl _) _) | exact ((HD1.out (by first | assumption | omega)).set (w := w) w.heap.size 0 (Nat.le_refl _) _)), HIN.out, (HI.out.set 0 _ (by simp [cells3] <;> omega)), HAP.out⟩
            case measure => simp [lenV] at *; omega
      by_cases hcase : n = 49
      · as_aux_lemma =>
          have hst : stp a n r = ({ a with bg := 0 }, r) := by
            unfold stp one; (repeat (first | rw [if_pos (by omega)] | rw [if_neg (by omega)]))
          have HAP := Lib.hid (show ap { a with bg := 0 } r = R by rw [← hap, ap_cons, hst])
          have HIN := Lib.hid (show ({ a with bg := 0 } : Look).In by have h := stp_in hin n hn r; rw [hst] at h; exact h)
          clear hst hap hin
          have q0 : (n == 0) = false := by simp; omega
          have q22 : (n == 22) = false := by simp; omega
          have q39 : (n == 39) = false := by simp; omega
          have q48 : (n == 48) = false := by simp; omega
          have q38 : (n == 38) = false := by simp; omega
          subst hcase
          go_wp2
          all_goals
            go_roundw
            case rel => exact ⟨_, r, _, _, _, rfl, (by first | exact (HD.out.set (w := w) w.heap.size 1 (Nat.le_refl _) _) | exact ((HD0.out (by first | assumption | omega)).set (w := w) w.heap.size 1 (Nat.le_refl _) _) | exact ((HD1.out (by first | assumption | omega)).set (w := w) w.heap.size 1 (Nat.le_refl _) _)), HIN.out, (HI.out.set 1 _ (by simp [cells3] <;> omega)), HAP.out⟩
            case measure => simp [lenV] at *; omega
      by_cases hcase : n < 0
      · as_aux_lemma =>
          have hst : stp a n r = (a, r) := by
            unfold stp one; (repeat (first | rw [if_pos (by omega)] | rw [if_neg (by omega)]))
          have HAP := Lib.hid (show ap a r = R by rw [← hap, ap_cons, hst])
          have HIN := Lib.hid (show (a : Look).In by have h := stp_in hin n hn r; rw [hst] at h; exact h)
          clear hst hap hin
          have q0 : (n == 0) = false := by simp; omega
          have q22 : (n == 22) = false := by simp; omega
          have q39 : (n == 39) = false := by simp; omega
          have q49 : (n == 49) = false := by simp; omega
          have q48 : (n == 48) = false := by simp; omega
          have q38 : (n == 38) = false := by simp; omega
          go_wp2
          all_goals
            go_roundw
            case rel => exact ⟨_, r, _, _, _, rfl, (by first | exact HD.out | exact (HD0.out (by first | assumption | omega)) | exact (HD1.out (by first | assumption | omega))), HIN.out, HI.out, HAP.out⟩
            case measure => simp [lenV] at *; omega
      by_cases hcase : n ≤ 21
      · as_aux_lemma =>
          have hst : stp a n r = (a, r) := by
            unfold stp one; (repeat (first | rw [if_pos (by omega)] | rw [if_neg (by omega)]))
          have HAP := Lib.hid (show ap a r = R by rw [← hap, ap_cons, hst])
          have HIN := Lib.hid (show (a : Look).In by have h := stp_in hin n hn r; rw [hst] at h; exact h)
          clear hst hap hin
          have q0 : (n == 0) = false := by simp; omega
          have q22 : (n == 22) = false := by simp; omega
          have q39 : (n == 39) = false := by simp; omega
          have q49 : (n == 49) = false := by simp; omega
          have q48 : (n == 48) = false := by simp; omega
          have q38 : (n == 38) = false := by simp; omega
          go_wp2
          all_goals
            go_roundw
            case rel => exact ⟨_, r, _, _, _, rfl, (by first | exact HD.out | exact (HD0.out (by first | assumption | omega)) | exact (HD1.out (by first | assumption | omega))), HIN.out, HI.out, HAP.out⟩
            case measure => simp [lenV] at *; omega
      by_cases hcase : n = 48
      · as_aux_lemma =>
          have hst : stp a n r = ({ a with bg := (far a.bg r).1 }, (far a.bg r).2) := by
            unfold stp; (repeat (first | rw [if_pos (by omega)] | rw [if_neg (by omega)]))
          have HAP := Lib.hid (show ap { a with bg := (far a.bg r).1 } (far a.bg r).2 = R by rw [← hap, ap_cons, hst])
          have HIN := Lib.hid (show ({ a with bg := (far a.bg r).1 } : Look).In by have h := stp_in hin n hn r; rw [hst] at h; exact h)
          have hle := far_le a.bg r
          clear hst hap hin
          have q0 : (n == 0) = false := by simp; omega
          have q22 : (n == 22) = false := by simp; omega
          have q39 : (n == 39) = false := by simp; omega
          have q49 : (n == 49) = false := by simp; omega
          have q38 : (n == 38) = false := by simp; omega
          subst hcase
          go_wp2_with (go_at_call 21; first | (refine (far1_any w.heap.size w.heap.size (len - 1) (cap - 1) (if cap = 1 then some ⟨b, off, none⟩ else some ⟨b, off + 1, none⟩) a.fg a.bg a.fl r _ (Nat.le_refl _) HI.out.1 HD.out).mono ?_; rintro e w2 ⟨ad2, len2, cap2, rfl, hg2, hb2, hk2⟩) | (refine (far1_any w.heap.size w.heap.size (len - 1) 0 (some ⟨b, off, none⟩) a.fg a.bg a.fl r _ (Nat.le_refl _) HI.out.1 (HD0.out (by first | assumption | omega))).mono ?_; rintro e w2 ⟨ad2, len2, cap2, rfl, hg2, hb2, hk2⟩) | (refine (far1_any w.heap.size w.heap.size (len - 1) (cap - 1) (some ⟨b, off + 1, none⟩) a.fg a.bg a.fl r _ (Nat.le_refl _) HI.out.1 (HD1.out (by first | assumption | omega))).mono ?_; rintro e w2 ⟨ad2, len2, cap2, rfl, hg2, hb2, hk2⟩))
          all_goals
            go_roundw
            case rel => exact ⟨_, _, _, _, _, rfl, hg2, HIN.out, HI.out.far hb2 hk2, HAP.out⟩
            case measure => have := hg2.1.1; simp [lenV] at *; omega
      by_cases hcase : n = 38
      · as_aux_lemma =>
          have hst : stp a n r = ({ a with fg := (far a.fg r).1 }, (far a.fg r).2) := by
            unfold stp; (repeat (first | rw [if_pos (by omega)] | rw [if_neg (by omega)]))
          have HAP := Lib.hid (show ap { a with fg := (far a.fg r).1 } (far a.fg r).2 = R by rw [← hap, ap_cons, hst])
          have HIN := Lib.hid (show ({ a with fg := (far a.fg r).1 } : Look).In by have h := stp_in hin n hn r; rw [hst] at h; exact h)
          have hle := far_le a.fg r
          clear hst hap hin
          have q0 : (n == 0) = false := by simp; omega
          have q22 : (n == 22) = false := by simp; omega
          have q39 : (n == 39) = false := by simp; omega
          have q49 : (n == 49) = false := by simp; omega
          have q48 : (n == 48) = false := by simp; omega
          subst hcase
          go_wp2_with (go_at_call 21; first | (refine (far0_any w.heap.size w.heap.size (len - 1) (cap - 1) (if cap = 1 then some ⟨b, off, none⟩ else some ⟨b, off + 1, none⟩) a.fg a.bg a.fl r _ (Nat.le_refl _) HI.out.1 HD.out).mono ?_; rintro e w2 ⟨ad2, len2, cap2, rfl, hg2, hb2, hk2⟩) | (refine (far0_any w.heap.size w.heap.size (len - 1) 0 (some ⟨b, off, none⟩) a.fg a.bg a.fl r _ (Nat.le_refl _) HI.out.1 (HD0.out (by first | assumption | omega))).mono ?_; rintro e w2 ⟨ad2, len2, cap2, rfl, hg2, hb2, hk2⟩) | (refine (far0_any w.heap.size w.heap.size (len - 1) (cap - 1) (some ⟨b, off + 1, none⟩) a.fg a.bg a.fl r _ (Nat.le_refl _) HI.out.1 (HD1.out (by first | assumption | omega))).mono ?_; rintro e w2 ⟨ad2, len2, cap2, rfl, hg2, hb2, hk2⟩))
          all_goals
            go_roundw
            case rel => exact ⟨_, _, _, _, _, rfl, hg2, HIN.out, HI.out.far hb2 hk2, HAP.out⟩
            case measure => have := hg2.1.1; simp [lenV] at *; omega
      by_cases hcase : n ≤ 89
      · as_aux_lemma =>
          have hst : stp a n r = (a, r) := by
            unfold stp one; (repeat (first | rw [if_pos (by omega)] | rw [if_neg (by omega)]))
          have HAP := Lib.hid (show ap a r = R by rw [← hap, ap_cons, hst])
          have HIN := Lib.hid (show (a : Look).In by have h := stp_in hin n hn r; rw [hst] at h; exact h)
          clear hst hap hin
          have q0 : (n == 0) = false := by simp; omega
          have q22 : (n == 22) = false := by simp; omega
          have q39 : (n == 39) = false := by simp; omega
          have q49 : (n == 49) = false := by simp; omega
          have q48 : (n == 48) = false := by simp; omega
          have q38 : (n == 38) = false := by simp; omega
          go_wp2
          all_goals
            go_roundw
            case rel => exact ⟨_, r, _, _, _, rfl, (by first | exact HD.out | exact (HD0.out (by first | assumption | omega)) | exact (HD1.out (by first | assumption | omega))), HIN.out, HI.out, HAP.out⟩
            case measure => simp [lenV] at *; omega
      by_cases hcase : n ≤ 99
      · as_aux_lemma =>
          have hst : stp a n r = (a, r) := by
            unfold stp one; (repeat (first | rw [if_pos (by omega)] | rw [if_neg (by omega)]))
          have HAP := Lib.hid (show ap a r = R by rw [← hap, ap_cons, hst])
          have HIN := Lib.hid (show (a : Look).In by have h := stp_in hin n hn r; rw [hst] at h; exact h)
          clear hst hap hin
          have q0 : (n == 0) = false := by simp; omega
          have q22 : (n == 22) = false := by simp; omega
          have q39 : (n == 39) = false := by simp; omega
          have q49 : (n == 49) = false := by simp; omega
          have q48 : (n == 48) = false := by simp; omega
          have q38 : (n == 38) = false := by simp; omega
          go_wp2
          all_goals
            go_roundw
            case rel => exact ⟨_, r, _, _, _, rfl, (by first | exact HD.out | exact (HD0.out (by first | assumption | omega)) | exact (HD1.out (by first | assumption | omega))), HIN.out, HI.out, HAP.out⟩
            case measure => simp [lenV] at *; omega
      as_aux_lemma =>
        have hst : stp a n r = (a, r) := by
          unfold stp one; (repeat (first | rw [if_pos (by omega)] | rw [if_neg (by omega)]))
        have HAP := Lib.hid (show ap a r = R by rw [← hap, ap_cons, hst])
        have HIN := Lib.hid (show (a : Look).In by have h := stp_in hin n hn r; rw [hst] at h; exact h)
        clear hst hap hin
        have q0 : (n == 0) = false := by simp; omega
        have q22 : (n == 22) = false := by simp; omega
        have q39 : (n == 39) = false := by simp; omega
        have q49 : (n == 49) = false := by simp; omega
        have q48 : (n == 48) = false := by simp; omega
        have q38 : (n == 38) = false := by simp; omega
        go_wp2
        all_goals
          go_roundw
          case rel => exact ⟨_, r, _, _, _, rfl, (by first | exact HD.out | exact (HD0.out (by first | assumption | omega)) | exact (HD1.out (by first | assumption | omega))), HIN.out, HI.out, HAP.out⟩
          case measure => simp [lenV] at *; omega
    · have hl0 : l = [] := List.eq_nil_of_length_eq_zero (by rw [hg.1.1]; omega)
      subst hl0
      rw [ap_nil] at hap
      subst hap
      have hlf : decide (0 < (len : Int)) = false := decide_eq_false (by omega)
      clear hg hin
      go_wp2
      have k0 : (wr.setCell ⟨w.heap.size + 1, 0, none⟩ (.int .i64 a.fg)).cell? ⟨w.heap.size + 1, 0, none⟩ = some (.int .i64 a.fg) := by rw [blk_cell (blk_set HI.out.2.1 0 _)]; rfl
      have k1 : ((wr.setCell ⟨w.heap.size + 1, 0, none⟩ (.int .i64 a.fg)).setCell ⟨w.heap.size + 1, 1, none⟩ (.int .i64 a.bg)).cell? ⟨w.heap.size + 1, 1, none⟩ = some (.int .i64 a.bg) := by rw [blk_cell (blk_set (blk_set HI.out.2.1 0 _) 1 _)]; rfl
      have k2 : (((wr.setCell ⟨w.heap.size + 1, 0, none⟩ (.int .i64 a.fg)).setCell ⟨w.heap.size + 1, 1, none⟩ (.int .i64 a.bg)).setCell ⟨w.heap.size + 1, 2, none⟩ (.int .i64 a.fl)).cell? ⟨w.heap.size + 1, 2, none⟩ = some (.int .i64 a.fl) := by rw [blk_cell (blk_set (blk_set (blk_set HI.out.2.1 0 _) 1 _) 2 _)]; rfl
      refine bodyPost_ret (v := lookV a) (by simp [results, Try.results9, go_sem, lookV, k0, k1, k2]) rfl ⟨by rw [HR.out]; rfl, ?_⟩
      refine (HI.out.2.2.trans ?_)
      repeat (refine Kept.setCell ?_ (Or.inl (Or.inr (by simp))) _)
      exact Kept.refl _ _
end Go.Proofs.Ytdcbaobipogmnaa
