/- The program's picture and the document's are the same list; the document's Draw where the sizes are bad. -/
import Derived.Test.YtdjgmhbfohbenaaOfP
namespace Go.Proofs.Ytdjgmhbfohbenaa
open Go.RowKit Go.Sort Pl
set_option linter.unusedVariables false
set_option linter.unusedSimpArgs false
theorem getD_same {l1 l2 : List Int} {n : Nat} (h1 : l1.length = n) (h2 : l2.length = n) (h : ∀ j, j < n → l1.getD j 0 = l2.getD j 0) : l1 = l2 := by
  refine List.ext_getElem (by omega) fun i ha hb => ?_
  have := h i (by omega)
  simpa [List.getD, List.getElem?_eq_getElem ha, List.getElem?_eq_getElem hb] using this
theorem lookI_none {E : List ME} {k : Int} (h : lookM E k = none) : ∀ L : List Pz, lookI (imL E L) k = none
  | [] => rfl
  | q :: L => by
    have ih := lookI_none h L
    unfold imL at ih ⊢
    rw [List.filterMap_cons]
    cases hq : lookM E q.im with
    | none => simp only [Option.map_none]; exact ih
    | some m =>
      simp only [Option.map_some]
      unfold lookI
      rw [if_neg (by intro he; simp only at he; rw [he, h] at hq; cases hq)]
      exact ih
theorem imL_cons (E : List ME) (q : Pz) (L : List Pz) : imL E (q :: L) = ((lookM E q.im).map fun m => (q.im, m)).toList ++ imL E L := by
  unfold imL
  rw [List.filterMap_cons]
  cases (lookM E q.im).map fun m => (q.im, m) <;> rfl
theorem lookI_imL {E : List ME} {L : List Pz} {p : Pz} (hp : p ∈ L) : lookI (imL E L) p.im = lookM E p.im := by
  induction L with
  | nil => cases hp
  | cons q L ih =>
    rw [imL_cons]
    cases hq : lookM E q.im with
    | none =>
      simp only [Option.map_none, Option.toList_none, List.nil_append]
      rcases List.mem_cons.1 hp with rfl | h
      · rw [hq]; exact lookI_none hq L
      · exact ih h
    | some m =>
      simp only [Option.map_some, Option.toList_some, List.cons_append, List.nil_append]
      unfold lookI
      by_cases h : q.im = p.im
      · rw [if_pos h, ← h, hq]
      · rw [if_neg h]
        rcases List.mem_cons.1 hp with rfl | h2
        · exact absurd rfl h
        · exact ih h2
theorem img_eq {W H n cw ch : Nat} {top : Int} {E : List ME} {IL : List (Int × ME)} {above : Bool} {P : List Int} {p : Pz} (h : lookI IL p.im = lookM E p.im) : imgStep W H n cw ch top E above P p = if decide (0 ≤ p.z) = above then imgD W H n cw ch top IL P p else P := by
  unfold imgStep imgD
  rw [h]
  cases lookM E p.im with
  | none => simp only [ite_self]
  | some m =>
    simp only
    by_cases hz : decide (0 ≤ p.z) = above
    · rw [if_pos hz]
      by_cases hw : (regP cw ch top p).w = 0
      · rw [if_pos (.inl hw), if_pos hw]
      · rw [if_neg (fun h => h.elim hw (fun h => h hz)), if_neg hw]
    · rw [if_neg hz, if_pos (.inr hz)]
theorem imgs_eq {W H n cw ch : Nat} {top : Int} {E : List ME} {IL : List (Int × ME)} {above : Bool} : ∀ (L : List Pz) (P : List Int), (∀ p ∈ L, lookI IL p.im = lookM E p.im) → imgsP W H n cw ch top E L above P = imgsR W H n cw ch top IL L above P
  | [], _, _ => rfl
  | p :: L, P, h => by
    show imgsP W H n cw ch top E L above (imgStep W H n cw ch top E above P p) = imgsR W H n cw ch top IL L above (if decide (0 ≤ p.z) = above then imgD W H n cw ch top IL P p else P)
    rw [img_eq (h p (.head _)), imgs_eq L _ (fun q hq => h q (.tail _ hq))]
theorem gro_eq {s : Sc} {ls : List (List Cl)} {W H : Nat} {P : List Int} (hcw : 0 < s.cw) (hch : 0 < s.ch) (hW : W = s.cols * s.cw) (hH : H = s.rows * s.ch) (hP : P.length = 4 * (W * H)) : eachF (groF s ls W H) s.cols s.rows P = groP ls W H s.cw s.ch P := by
  have hl : (eachF (groF s ls W H) s.cols s.rows P).length = 4 * (W * H) := eachF_ind (C := fun P => P.length = 4 * (W * H)) (fun r c P _ => by unfold groF; exact layL_len ..) _ _ hP
  refine getD_same hl (by unfold groP; exact tab_length _ _) fun j hj => ?_
  obtain ⟨h1, h2⟩ := px_lt hj
  rw [gro_get hcw hch hW hH hj]
  unfold groP
  rw [tab_get hj]
  unfold paintF
  rw [if_pos]
  · rfl
  · unfold Spot.inside
    exact ⟨Nat.zero_le _, h1, Nat.zero_le _, h2⟩
/-- Both pictures. -/
theorem pic_eq (rows cols cw ch : Nat) (la la' : Option Addr) (ln lc lc' : Nat) (pa pa' : Option Addr) (pn pc pc' : Nat) (im : Option Nat) (ia : Option Addr) (ik ic : Nat) (top : Int) (cur : Bool) (row col : Int) (ls : List (List Cl)) (E : List ME) (L : List Pz) (W H n : Nat) (hcw : 1 ≤ cw) (hch : 1 ≤ ch) (hW : W = cols * cw) (hH : H = rows * ch) (hn : n = 4 * (W * H)) :
    drawP ⟨rows, cols, cw, ch, la, ln, lc, pa, pn, pc, im, top, cur, row, col⟩ ls (imgsP W H n cw ch top E L) W H n (List.replicate n 0) = rdrawP ⟨rows, cols, cw, ch, la', ln, lc', pa', pn, pc', ia, ik, ic, top, cur, row, col⟩ ls L (imL E L) W H n := by
  have e1 : ∀ above P, imgsP W H n cw ch top E L above P = imgsR W H n cw ch top (imL E L) L above P := fun above P => imgs_eq L P (fun p hp => lookI_imL hp)
  have e2 : eachF (groF ⟨rows, cols, cw, ch, la, ln, lc, pa, pn, pc, im, top, cur, row, col⟩ ls W H) cols rows (List.replicate n 0) = groP ls W H cw ch (List.replicate n 0) := gro_eq (s := ⟨rows, cols, cw, ch, la, ln, lc, pa, pn, pc, im, top, cur, row, col⟩) hcw hch hW hH (by rw [List.length_replicate, hn])
  unfold drawP rdrawP
  simp only
  rw [e2, e1, e1]
  rfl
set_option maxRecDepth 100000 in
set_option maxHeartbeats 8000000 in
theorem rdraw_no (rows cols cw ch : Int) (la : Option Addr) (ln lc : Nat) (pa : Option Addr) (pn pc : Nat) (ia : Option Addr) (ik ic : Nat) (top : Int) (cur : Bool) (row col : Int) (wd : World)
    (h : ¬ ((1 ≤ rows ∧ rows ≤ 1000) ∧ (1 ≤ cols ∧ cols ≤ 1000) ∧ (1 ≤ cw ∧ cw ≤ 64) ∧ (1 ≤ ch ∧ ch ≤ 64))) :
    Calls Try.prog 12 #[.agg #[.int .i64 rows, .int .i64 cols, .int .i64 cw, .int .i64 ch, .slice la ln lc, .slice pa pn pc, .slice ia ik ic, .int .i64 top, .bool cur, .int .i64 row, .int .i64 col]] wd fun e w' => e = .returned (.tuple #[mat0, .int .i64 1]) ∧ Kept (fun _ => False) wd w' := by
  have HB := Lib.hid (fun (v lo hi : Int) (b : Bool) (hb : decide (lo ≤ v ∧ v ≤ hi) = b) (x : World) => show Calls Try.prog 34 #[.int .i64 v, .int .i64 lo, .int .i64 hi] x fun e w' => e = .returned (.bool b) ∧ x = w' from by
    have h := in34_any v lo hi x
    rw [← Bool.decide_and, hb] at h
    exact h.mono fun _ _ h => ⟨h.1, h.2.symm⟩)
  by_cases c0 : 1 ≤ rows ∧ rows ≤ 1000
  rotate_left
  · have HF := Lib.hid (HB.out rows 1 1000 false (decide_eq_false c0))
    clear h HB c0
    go_enter Try.func12, Try.ntmps12
    go_wp2_with (go_at_call 34; first | ((with_reducible refine (HF.out _).mono ?_); rintro e w' ⟨rfl, rfl⟩))
    refine bodyPost_ret (v := .tuple #[mat0, .int .i64 1]) (by simp [results, Try.results12, go_sem, mat0, mat]) rfl ⟨rfl, ?_⟩
    repeat (first | apply Kept.alloc | apply Kept.drew)
    exact Kept.refl _ _
  have HT0 := Lib.hid (HB.out rows 1 1000 true (decide_eq_true c0))
  by_cases c1 : 1 ≤ cols ∧ cols ≤ 1000
  rotate_left
  · have HF := Lib.hid (HB.out cols 1 1000 false (decide_eq_false c1))
    clear h HB c0 c1
    go_enter Try.func12, Try.ntmps12
    go_wp2_with (go_at_call 34; first | ((with_reducible refine (HF.out _).mono ?_); rintro e w' ⟨rfl, rfl⟩) | ((with_reducible refine (HT0.out _).mono ?_); rintro e w' ⟨rfl, rfl⟩))
    refine bodyPost_ret (v := .tuple #[mat0, .int .i64 1]) (by simp [results, Try.results12, go_sem, mat0, mat]) rfl ⟨rfl, ?_⟩
    repeat (first | apply Kept.alloc | apply Kept.drew)
    exact Kept.refl _ _
  have HT1 := Lib.hid (HB.out cols 1 1000 true (decide_eq_true c1))
  by_cases c2 : 1 ≤ cw ∧ cw ≤ 64
  rotate_left
  · have HF := Lib.hid (HB.out cw 1 64 false (decide_eq_false c2))
    clear h HB c0 c1 c2
    go_enter Try.func12, Try.ntmps12
    go_wp2_with (go_at_call 34; first | ((with_reducible refine (HF.out _).mono ?_); rintro e w' ⟨rfl, rfl⟩) | ((with_reducible refine (HT0.out _).mono ?_); rintro e w' ⟨rfl, rfl⟩) | ((with_reducible refine (HT1.out _).mono ?_); rintro e w' ⟨rfl, rfl⟩))
    refine bodyPost_ret (v := .tuple #[mat0, .int .i64 1]) (by simp [results, Try.results12, go_sem, mat0, mat]) rfl ⟨rfl, ?_⟩
    repeat (first | apply Kept.alloc | apply Kept.drew)
    exact Kept.refl _ _
  have HT2 := Lib.hid (HB.out cw 1 64 true (decide_eq_true c2))
  by_cases c3 : 1 ≤ ch ∧ ch ≤ 64
  rotate_left
  · have HF := Lib.hid (HB.out ch 1 64 false (decide_eq_false c3))
    clear h HB c0 c1 c2 c3
    go_enter Try.func12, Try.ntmps12
    go_wp2_with (go_at_call 34; first | ((with_reducible refine (HF.out _).mono ?_); rintro e w' ⟨rfl, rfl⟩) | ((with_reducible refine (HT0.out _).mono ?_); rintro e w' ⟨rfl, rfl⟩) | ((with_reducible refine (HT1.out _).mono ?_); rintro e w' ⟨rfl, rfl⟩) | ((with_reducible refine (HT2.out _).mono ?_); rintro e w' ⟨rfl, rfl⟩))
    refine bodyPost_ret (v := .tuple #[mat0, .int .i64 1]) (by simp [results, Try.results12, go_sem, mat0, mat]) rfl ⟨rfl, ?_⟩
    repeat (first | apply Kept.alloc | apply Kept.drew)
    exact Kept.refl _ _
  have HT3 := Lib.hid (HB.out ch 1 64 true (decide_eq_true c3))
  exact absurd ⟨c0, c1, c2, c3⟩ h
end Go.Proofs.Ytdjgmhbfohbenaa
