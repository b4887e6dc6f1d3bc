/- The law of flags that are set and unset, walked. -/
import Derived.Test.YtdcbaobipogmnaaLAttr
import Derived.Deep.DeepCutAuto
namespace Go.Proofs.Ytdcbaobipogmnaa
open Go.RowKit Pl Go.Sort
set_option linter.unusedVariables false
set_option linter.unusedSimpArgs false
namespace Pl
def onL : List Int := [3, 4, 5, 7, 8, 9]
def flL : List Int := [4, 8, 16, 32, 64, 128]
theorem on_facts (k : Nat) (hk : k < 6) : ∃ o f, onL.getD k 0 = o ∧ flL.getD k 0 = f ∧ 3 ≤ o ∧ o ≤ 9 ∧ o ≠ 6 ∧ flagN o = f ∧ 0 ≤ f ∧ f ≤ 255 := by
  match k, hk with
  | 0, _ | 1, _ | 2, _ | 3, _ | 4, _ | 5, _ => exact ⟨_, _, rfl, rfl, by decide, by decide, by decide, by decide, by decide, by decide⟩
theorem ap_one (a : Look) (n : Int) (h : n ≠ 38 ∧ n ≠ 48) : apply a [n] = one a n := by
  unfold apply
  rw [if_neg (by simp), ap_cons]
  have e : stp a n [] = (one a n, []) := by unfold stp; rw [if_neg h.1, if_neg h.2]
  rw [e, ap_nil]
theorem ap_set (a : Look) (o f : Int) (h1 : 3 ≤ o) (h2 : o ≤ 9) (hf : flagN o = f) : apply a [o] = { a with fl := orI a.fl f } := by
  rw [ap_one a o (by omega)]
  unfold one
  rw [if_neg (by omega), if_pos (by omega), hf]
theorem ap_unset (a : Look) (o f : Int) (h1 : 3 ≤ o) (h2 : o ≤ 9) (hf : flagN o = f) : apply { a with fl := orI a.fl f } [o + 20] = { a with fl := subI a.fl f } := by
  rw [ap_one _ (o + 20) (by omega)]
  unfold one
  rw [if_neg (by omega), if_neg (by omega), if_neg (by omega), if_pos (by omega), show o + 20 - 20 = o by omega, hf]
  simp only [sub_or]
theorem bv_two (y p q : BitVec 64) : ((y ||| p) ||| q) &&& ~~~p &&& ~~~q = y &&& ~~~(p ||| q) := by
  apply BitVec.eq_of_getLsbD_eq
  intro i hi
  simp [hi]
  generalize y[i] = a
  generalize p[i] = b
  generalize q[i] = c
  cases a <;> cases b <;> cases c <;> rfl
theorem two_bits (x : Int) : subI (subI (orI (orI x 1) 2) 1) 2 = subI x 3 := bv_inj (bits_in _ _ _) (bits_in _ _ _) (by
  rw [sub_bv, sub_bv, or_bv, or_bv, sub_bv]
  exact bv_two _ _ _)
theorem ap_two (a : Look) : apply a [1, 2] = { a with fl := orI (orI a.fl 1) 2 } := by
  unfold apply
  rw [if_neg (by simp), ap_cons]
  have e1 : stp a 1 [2] = ({ a with fl := orI a.fl 1 }, [2]) := by unfold stp one; rfl
  rw [e1, ap_cons]
  have e2 : stp { a with fl := orI a.fl 1 } 2 [] = ({ a with fl := orI (orI a.fl 1) 2 }, []) := by unfold stp one; rfl
  rw [e2, ap_nil]
theorem ap_un2 (a : Look) : apply { a with fl := orI (orI a.fl 1) 2 } [22] = { a with fl := subI a.fl 3 } := by
  rw [ap_one _ 22 (by decide)]
  have e : one { a with fl := orI (orI a.fl 1) 2 } 22 = { a with fl := subI (subI (orI (orI a.fl 1) 2) 1) 2 } := by unfold one; rfl
  rw [e, two_bits]
end Pl
theorem cell_on {w : World} {p : Nat} (h : w.heap[p]? = some (.cells #[.int .i64 3, .int .i64 4, .int .i64 5, .int .i64 7, .int .i64 8, .int .i64 9] 3 (0, 0))) (n : Nat) (hn : n < 6) : w.cell? ⟨p, n, none⟩ = some (.int .i64 (onL.getD n 0)) := by
  rw [blk_cell h]
  match n, hn with
  | 0, _ | 1, _ | 2, _ | 3, _ | 4, _ | 5, _ => rfl
theorem cell_fl {w : World} {p : Nat} (h : w.heap[p]? = some (.cells #[.int .i64 4, .int .i64 8, .int .i64 16, .int .i64 32, .int .i64 64, .int .i64 128] 3 (0, 0))) (n : Nat) (hn : n < 6) : w.cell? ⟨p, n, none⟩ = some (.int .i64 (flL.getD n 0)) := by
  rw [blk_cell h]
  match n, hn with
  | 0, _ | 1, _ | 2, _ | 3, _ | 4, _ | 5, _ => rfl
theorem argBlk {w : World} {p : Nat} {C : Array Value} (h : w.heap[p]? = some (.cells C 3 (0, 0))) (xs : List Int) (n : Nat) (hC : C = (xs.map (Value.int .i64)).toArray) (hn : xs.length = n) (hx : ∀ x ∈ xs, In x) (hm : n ≤ 1000) : Arg w.heap.size w (some ⟨p, 0, none⟩) n n xs :=
  ⟨slAt_blk h hC hn, Nat.le_refl _, by omega, fun b off _ he => by cases he; exact lt_of_blk h, hx⟩
/-- What a statement 'x := attr.Apply(..)' leaves. -/
theorem blk_drew {w : World} {b : Nat} {o : Obj} (h : w.heap[b]? = some o) : w.drew.heap[b]? = some o := h
def Made (V : World) (X : Look) (v : Value) (wx : World) : Prop := ∃ p, v = .pointer (some ⟨p, 0, none⟩) ∧ wx.heap[p]? = some (.cells (cells3 X) 23 (0, 0)) ∧ Kept (fun _ => False) V wx
set_option maxRecDepth 100000 in
set_option maxHeartbeats 4000000 in
theorem flags_early (a : Look) (n : Int) (w : World) (h : rightB a = false) :
    Calls Try.prog 6 #[.agg #[.int .i64 a.fg, .int .i64 a.bg, .int .i64 a.fl], .int .i64 n] w fun e w' => e = .returned (.bool true) ∧ Kept (fun _ => False) w w' := by
  have D := Lib.hid (fun w => show Calls Try.prog 11 #[.agg #[.int .i64 a.fg, .int .i64 a.bg, .int .i64 a.fl]] w fun e w' => e = .returned (.bool false) ∧ Kept (fun _ => False) w w' from by rw [← h]; exact right_any a w)
  clear h
  go_enter Try.func6, Try.ntmps6
  go_wp2_with fail
  refine (known_any _).mono ?_; rintro e w1 ⟨rfl, hk⟩
  have b1 := hk.blk (blk_new w _) id
  have k1 := ((Kept.refl (fun _ => False) w).alloc _).then hk
  obtain ⟨⟨c0, f0⟩, ⟨c1, f1⟩, c2, f2⟩ := blk3 b1
  clear hk b1
  go_wp2_with fail
  refine (D.out _).mono ?_; rintro e w2 ⟨rfl, hk⟩
  have k2 := k1.then hk
  clear k1 hk
  go_wp2
  go_ret
  exact ⟨rfl, k2⟩
set_option maxRecDepth 100000 in
set_option maxHeartbeats 8000000 in
theorem flags_pos (a : Look) (ha : a.In) (n : Int) (k : Nat) (hk6 : k < 6) (w : World) (h : rightB a = true) (hn : n.tmod 6 = (k : Int)) :
    Calls Try.prog 6 #[.agg #[.int .i64 a.fg, .int .i64 a.bg, .int .i64 a.fl], .int .i64 n] w fun e w' => e = .returned (.bool true) ∧ Kept (fun _ => False) w w' := by
  have D := Lib.hid (fun w => show Calls Try.prog 11 #[.agg #[.int .i64 a.fg, .int .i64 a.bg, .int .i64 a.fl]] w fun e w' => e = .returned (.bool true) ∧ Kept (fun _ => False) w w' from by rw [← h]; exact right_any a w)
  obtain ⟨o, f, ho, hf, o1, o2, o3, o4, o5, o6⟩ := on_facts k hk6
  have l1 := ap_set a o f o1 o2 o4
  have l2 := ap_unset a o f o1 o2 o4
  have l3 := ap_two a
  have l4 := ap_un2 a
  have inX : ({ a with fl := orI a.fl f } : Look).In := ⟨ha.1, ha.2.1, or_in _ _⟩
  have inZ : ({ a with fl := orI (orI a.fl 1) 2 } : Look).In := ⟨ha.1, ha.2.1, or_in _ _⟩
  have HIn := Lib.hid ha
  clear h o3 o4
  go_enter Try.func6, Try.ntmps6
  go_wp2_with fail
  refine (known_any _).mono ?_; rintro e w1 ⟨rfl, hk⟩
  have b1 := hk.blk (blk_new w _) id
  have k1 := ((Kept.refl (fun _ => False) w).alloc _).then hk
  obtain ⟨⟨c0, f0⟩, ⟨c1, f1⟩, c2, f2⟩ := blk3 b1
  have HB1 := Lib.hid b1
  clear hk b1
  go_wp2_with fail
  refine (D.out _).mono ?_; rintro e w2 ⟨rfl, hk⟩
  have k2 := k1.then hk
  obtain ⟨V, hV⟩ : ∃ V, (w2.alloc (.cells #[.int .i64 3, .int .i64 4, .int .i64 5, .int .i64 7, .int .i64 8, .int .i64 9] 3)).alloc (.cells #[.int .i64 4, .int .i64 8, .int .i64 16, .int .i64 32, .int .i64 64, .int .i64 128] 3) = V := ⟨_, rfl⟩
  have kV : Kept (fun _ => False) w2 V := by rw [← hV]; exact ((Kept.refl _ w2).alloc _).alloc _
  have bo : V.heap[w2.heap.size]? = some (.cells #[.int .i64 3, .int .i64 4, .int .i64 5, .int .i64 7, .int .i64 8, .int .i64 9] 3 (0, 0)) := by rw [← hV]; exact blk_alloc (blk_new _ _) _
  have bl : V.heap[w2.heap.size + 1]? = some (.cells #[.int .i64 4, .int .i64 8, .int .i64 16, .int .i64 32, .int .i64 64, .int .i64 128] 3 (0, 0)) := by rw [← hV]; exact blk_at _ _ (by simp)
  have ba := (hk.then kV).blk HB1.out id
  have kk := k2.then kV
  have xo := cell_on bo k hk6
  have xf := cell_fl bl k hk6
  rw [ho] at xo
  rw [hf] at xf
  have HO := Lib.hid xo
  have HF := Lib.hid xf
  have HA := Lib.hid (show V.heap[w.heap.size]? = some (.cells (cells3 a) 23 (0, 0)) from ba)
  have HK := Lib.hid kk
  have i0 : (0 : Int) ≤ (k : Int) := by omega
  have i1 : (k : Int) < 6 := by omega
  clear hk bo bl ba kk k1 k2 kV hf ho f0 f1 f2 c0 c1 c2 xo xf
  have gn : decide ((k : Int) < 0) = false := decide_eq_false (by omega)
  go_upto_region 10 with fail
  clear gn hn
  obtain ⟨X, hX⟩ : ∃ X, ({ a with fl := orI a.fl f } : Look) = X := ⟨_, rfl⟩
  obtain ⟨Y, hY⟩ : ∃ X, ({ a with fl := subI a.fl f } : Look) = X := ⟨_, rfl⟩
  obtain ⟨Z, hZ⟩ : ∃ X, ({ a with fl := orI (orI a.fl 1) 2 } : Look) = X := ⟨_, rfl⟩
  obtain ⟨U, hU⟩ : ∃ X, ({ a with fl := subI a.fl 3 } : Look) = X := ⟨_, rfl⟩
  rw [hX] at l1 l2 inX
  rw [hY] at l2
  rw [hZ] at l3 l4 inZ
  rw [hU] at l4
  have HL1 := Lib.hid l1
  have HL2 := Lib.hid l2
  have HL3 := Lib.hid l3
  have HL4 := Lib.hid l4
  have HIX := Lib.hid inX
  have HIZ := Lib.hid inZ
  have HX := Lib.hid hX
  have HY := Lib.hid hY
  have HU := Lib.hid hU
  clear l1 l2 l3 l4 inX inZ hX hY hZ hU
  go_cut [8] (fun v wx => Made V X v wx)
  case first =>
    have HC := Lib.hid (fun (V' : World) (p : Nat) (hk : Kept (fun _ => False) V V') (hb : V'.heap[p]? = some (.cells #[.int .i64 o] 3 (0, 0))) => show Calls Try.prog 9 #[.agg #[.int .i64 a.fg, .int .i64 a.bg, .int .i64 a.fl], .slice (some ⟨p, 0, none⟩) 1 1] V' fun e w' => e = .returned (.agg #[.int .i64 X.fg, .int .i64 X.bg, .int .i64 X.fl]) ∧ Kept (fun _ => False) V' w' from by
      have h := apply_any (a := a) (argBlk hb [o] 1 rfl rfl (by intro x hx; simp at hx; unfold In; omega) (by omega)) HIn.out
      rw [HL1.out] at h
      exact h)
    obtain ⟨⟨c0, -⟩, ⟨c1, -⟩, c2, -⟩ := cells_of HA.out
    have c3 := HO.out
    have CA := Lib.hid (HC.out (V.alloc (.cells #[.int .i64 o] 3)).drew V.heap.size (((Kept.refl (fun _ => False) V).alloc (.cells #[.int .i64 o] 3)).drew) (blk_drew (blk_new _ _)))
    have kA := (((Kept.refl (fun _ => False) V).alloc (.cells #[.int .i64 o] 3)).drew)
    have CB := Lib.hid (HC.out ((V.alloc (.cells #[.int .i64 0, .int .i64 0, .int .i64 0] 23)).alloc (.cells #[.int .i64 o] 3)).drew (V.heap.size + 1) ((((Kept.refl (fun _ => False) V).alloc (.cells #[.int .i64 0, .int .i64 0, .int .i64 0] 23)).alloc (.cells #[.int .i64 o] 3)).drew) (blk_drew (blk_at _ _ (by simp))))
    have CC := Lib.hid (HC.out ((V.alloc (.cells #[.int .i64 o] 3)).alloc (.cells #[.int .i64 0, .int .i64 0, .int .i64 0] 23)).drew V.heap.size ((((Kept.refl (fun _ => False) V).alloc (.cells #[.int .i64 o] 3)).alloc (.cells #[.int .i64 0, .int .i64 0, .int .i64 0] 23)).drew) (blk_drew (blk_alloc (blk_new _ _) _)))
    have kA := Lib.hid (((Kept.refl (fun _ => False) V).alloc (.cells #[.int .i64 o] 3)).drew)
    have kB := Lib.hid ((((Kept.refl (fun _ => False) V).alloc (.cells #[.int .i64 0, .int .i64 0, .int .i64 0] 23)).alloc (.cells #[.int .i64 o] 3)).drew)
    have kC := Lib.hid ((((Kept.refl (fun _ => False) V).alloc (.cells #[.int .i64 o] 3)).alloc (.cells #[.int .i64 0, .int .i64 0, .int .i64 0] 23)).drew)
    have zB := Lib.hid (show ((V.alloc (.cells #[.int .i64 0, .int .i64 0, .int .i64 0] 23)).alloc (.cells #[.int .i64 o] 3)).drew.heap[V.heap.size]? = some (.cells #[.int .i64 0, .int .i64 0, .int .i64 0] 23) from blk_drew (blk_alloc (blk_new _ _) _))
    have zC := Lib.hid (show ((V.alloc (.cells #[.int .i64 o] 3)).alloc (.cells #[.int .i64 0, .int .i64 0, .int .i64 0] 23)).drew.heap[V.heap.size + 1]? = some (.cells #[.int .i64 0, .int .i64 0, .int .i64 0] 23) from blk_drew (blk_at _ _ (by simp)))
    go_region_held3 (fun w' => w'.cell? ⟨w.heap.size, 0, none⟩ = some (.int .i64 a.fg) ∧ w'.cell? ⟨w.heap.size, 1, none⟩ = some (.int .i64 a.bg) ∧ w'.cell? ⟨w.heap.size, 2, none⟩ = some (.int .i64 a.fl) ∧ w'.cell? ⟨w2.heap.size, k, none⟩ = some (.int .i64 o)) (first | ((go_keep; done)) | (go_split_ands; all_goals go_keep)) ((go_at_call 9; first
      | ((with_reducible refine Calls.mono CA.out ?_); rintro e w1 ⟨rfl, h1⟩; have k1 := kA.out.then h1; obtain ⟨⟨p0, -⟩, ⟨p1, -⟩, p2, -⟩ := cells_of (k1.blk HA.out id); have p3 := k1.cell HO.out id; obtain ⟨V3, hV3⟩ : ∃ V3, w1.alloc (.cells #[.int .i64 X.fg, .int .i64 X.bg, .int .i64 X.fl] 23) = V3 := ⟨_, rfl⟩; have bV : V3.heap[w1.heap.size]? = some (.cells (cells3 X) 23 (0, 0)) := (by rw [← hV3]; exact blk_new _ _); have kV3 : Kept (fun _ => False) V V3 := (by rw [← hV3]; exact k1.alloc _); obtain ⟨⟨q0, -⟩, ⟨q1, -⟩, q2, -⟩ := cells_of (kV3.blk HA.out id); have q3 := kV3.cell HO.out id; have HM := Lib.hid (show ∃ p, (Value.pointer (some ⟨w1.heap.size, 0, none⟩)) = .pointer (some ⟨p, 0, none⟩) ∧ V3.heap[p]? = some (.cells (cells3 X) 23 (0, 0)) ∧ Kept (fun _ => False) V V3 from ⟨_, rfl, bV, kV3⟩); clear h1 k1 bV kV3)
      | ((with_reducible refine Calls.mono CB.out ?_); rintro e w1 ⟨rfl, h1⟩; have k1 := kB.out.then h1; obtain ⟨⟨p0, -⟩, ⟨p1, -⟩, p2, -⟩ := cells_of (k1.blk HA.out id); have p3 := k1.cell HO.out id; have hz : w1.heap[V.heap.size]? = some (.cells #[.int .i64 0, .int .i64 0, .int .i64 0] 23 (0, 0)) := h1.blk zB.out id; obtain ⟨V1, V2, V3, e1, e2, e3, ⟨x1, y1⟩, ⟨x2, y2⟩, ⟨x3, y3⟩, bV, kV⟩ := store3 hz (.int .i64 X.fg) (.int .i64 X.bg) (.int .i64 X.fl); have kV3 : Kept (fun _ => False) V V3 := k1.trans (kV.mono fun i _ hi => Or.inr (by have h9 : i = V.heap.size := hi; omega)); obtain ⟨⟨q0, -⟩, ⟨q1, -⟩, q2, -⟩ := cells_of (kV3.blk HA.out id); have q3 := kV3.cell HO.out id; have HM := Lib.hid (show ∃ p, (Value.pointer (some ⟨V.heap.size, 0, none⟩)) = .pointer (some ⟨p, 0, none⟩) ∧ V3.heap[p]? = some (.cells (cells3 X) 23 (0, 0)) ∧ Kept (fun _ => False) V V3 from ⟨_, rfl, bV, kV3⟩); clear h1 k1 bV kV kV3 hz)
      | ((with_reducible refine Calls.mono CC.out ?_); rintro e w1 ⟨rfl, h1⟩; have k1 := kC.out.then h1; obtain ⟨⟨p0, -⟩, ⟨p1, -⟩, p2, -⟩ := cells_of (k1.blk HA.out id); have p3 := k1.cell HO.out id; have hz : w1.heap[(V.heap.size + 1)]? = some (.cells #[.int .i64 0, .int .i64 0, .int .i64 0] 23 (0, 0)) := h1.blk zC.out id; obtain ⟨V1, V2, V3, e1, e2, e3, ⟨x1, y1⟩, ⟨x2, y2⟩, ⟨x3, y3⟩, bV, kV⟩ := store3 hz (.int .i64 X.fg) (.int .i64 X.bg) (.int .i64 X.fl); have kV3 : Kept (fun _ => False) V V3 := k1.trans (kV.mono fun i _ hi => Or.inr (by have h9 : i = (V.heap.size + 1) := hi; omega)); obtain ⟨⟨q0, -⟩, ⟨q1, -⟩, q2, -⟩ := cells_of (kV3.blk HA.out id); have q3 := kV3.cell HO.out id; have HM := Lib.hid (show ∃ p, (Value.pointer (some ⟨(V.heap.size + 1), 0, none⟩)) = .pointer (some ⟨p, 0, none⟩) ∧ V3.heap[p]? = some (.cells (cells3 X) 23 (0, 0)) ∧ Kept (fun _ => False) V V3 from ⟨_, rfl, bV, kV3⟩); clear h1 k1 bV kV kV3 hz)))
    all_goals
      go_wp2_with fail
      go_meet
      obtain ⟨p, hp, hb, hk⟩ := HM.out
      exact ⟨p, hp, hb, hk⟩
  case rest =>
    obtain ⟨p8, rfl, b8, k8⟩ := hcut
    have HB8 := Lib.hid b8
    have HK8 := Lib.hid k8
    have ex : IntKind.i64.wrap (o + 20) = o + 20 := IntWalk.i64_in _ (by omega)
    clear b8 k8
    go_upto_region 11 with fail
    go_cut [9] (fun v wx => Made wc Y v wx)
    case first =>
      have HC := Lib.hid (fun (V' : World) (p : Nat) (hk : Kept (fun _ => False) wc V') (hb : V'.heap[p]? = some (.cells #[.int .i64 (o + 20)] 3 (0, 0))) => show Calls Try.prog 9 #[.agg #[.int .i64 X.fg, .int .i64 X.bg, .int .i64 X.fl], .slice (some ⟨p, 0, none⟩) 1 1] V' fun e w' => e = .returned (.agg #[.int .i64 Y.fg, .int .i64 Y.bg, .int .i64 Y.fl]) ∧ Kept (fun _ => False) V' w' from by
        have h := apply_any (a := X) (argBlk hb [(o + 20)] 1 rfl rfl (by intro x hx; simp at hx; unfold In; omega) (by omega)) HIX.out
        rw [HL2.out] at h
        exact h)
      obtain ⟨⟨c0, -⟩, ⟨c1, -⟩, c2, -⟩ := cells_of HB8.out
      have HO8 := Lib.hid (HK8.out.cell HO.out id)
      have c3 := HO8.out
      have CA := Lib.hid (HC.out (wc.alloc (.cells #[.int .i64 (o + 20)] 3)).drew wc.heap.size (((Kept.refl (fun _ => False) wc).alloc (.cells #[.int .i64 (o + 20)] 3)).drew) (blk_drew (blk_new _ _)))
      have kA := (((Kept.refl (fun _ => False) wc).alloc (.cells #[.int .i64 (o + 20)] 3)).drew)
      have CB := Lib.hid (HC.out ((wc.alloc (.cells #[.int .i64 0, .int .i64 0, .int .i64 0] 23)).alloc (.cells #[.int .i64 (o + 20)] 3)).drew (wc.heap.size + 1) ((((Kept.refl (fun _ => False) wc).alloc (.cells #[.int .i64 0, .int .i64 0, .int .i64 0] 23)).alloc (.cells #[.int .i64 (o + 20)] 3)).drew) (blk_drew (blk_at _ _ (by simp))))
      have CC := Lib.hid (HC.out ((wc.alloc (.cells #[.int .i64 (o + 20)] 3)).alloc (.cells #[.int .i64 0, .int .i64 0, .int .i64 0] 23)).drew wc.heap.size ((((Kept.refl (fun _ => False) wc).alloc (.cells #[.int .i64 (o + 20)] 3)).alloc (.cells #[.int .i64 0, .int .i64 0, .int .i64 0] 23)).drew) (blk_drew (blk_alloc (blk_new _ _) _)))
      have kA := Lib.hid (((Kept.refl (fun _ => False) wc).alloc (.cells #[.int .i64 (o + 20)] 3)).drew)
      have kB := Lib.hid ((((Kept.refl (fun _ => False) wc).alloc (.cells #[.int .i64 0, .int .i64 0, .int .i64 0] 23)).alloc (.cells #[.int .i64 (o + 20)] 3)).drew)
      have kC := Lib.hid ((((Kept.refl (fun _ => False) wc).alloc (.cells #[.int .i64 (o + 20)] 3)).alloc (.cells #[.int .i64 0, .int .i64 0, .int .i64 0] 23)).drew)
      have zB := Lib.hid (show ((wc.alloc (.cells #[.int .i64 0, .int .i64 0, .int .i64 0] 23)).alloc (.cells #[.int .i64 (o + 20)] 3)).drew.heap[wc.heap.size]? = some (.cells #[.int .i64 0, .int .i64 0, .int .i64 0] 23) from blk_drew (blk_alloc (blk_new _ _) _))
      have zC := Lib.hid (show ((wc.alloc (.cells #[.int .i64 (o + 20)] 3)).alloc (.cells #[.int .i64 0, .int .i64 0, .int .i64 0] 23)).drew.heap[wc.heap.size + 1]? = some (.cells #[.int .i64 0, .int .i64 0, .int .i64 0] 23) from blk_drew (blk_at _ _ (by simp)))
      go_region_held3 (fun w' => w'.cell? ⟨p8, 0, none⟩ = some (.int .i64 X.fg) ∧ w'.cell? ⟨p8, 1, none⟩ = some (.int .i64 X.bg) ∧ w'.cell? ⟨p8, 2, none⟩ = some (.int .i64 X.fl) ∧ w'.cell? ⟨w2.heap.size, k, none⟩ = some (.int .i64 o)) (first | ((go_keep; done)) | (go_split_ands; all_goals go_keep)) ((go_at_call 9; first
        | ((with_reducible refine Calls.mono CA.out ?_); rintro e w1 ⟨rfl, h1⟩; have k1 := kA.out.then h1; obtain ⟨⟨p0, -⟩, ⟨p1, -⟩, p2, -⟩ := cells_of (k1.blk HB8.out id); have p3 := k1.cell HO8.out id; obtain ⟨V3, hV3⟩ : ∃ V3, w1.alloc (.cells #[.int .i64 Y.fg, .int .i64 Y.bg, .int .i64 Y.fl] 23) = V3 := ⟨_, rfl⟩; have bV : V3.heap[w1.heap.size]? = some (.cells (cells3 Y) 23 (0, 0)) := (by rw [← hV3]; exact blk_new _ _); have kV3 : Kept (fun _ => False) wc V3 := (by rw [← hV3]; exact k1.alloc _); obtain ⟨⟨q0, -⟩, ⟨q1, -⟩, q2, -⟩ := cells_of (kV3.blk HB8.out id); have q3 := kV3.cell HO8.out id; have HM := Lib.hid (show ∃ p, (Value.pointer (some ⟨w1.heap.size, 0, none⟩)) = .pointer (some ⟨p, 0, none⟩) ∧ V3.heap[p]? = some (.cells (cells3 Y) 23 (0, 0)) ∧ Kept (fun _ => False) wc V3 from ⟨_, rfl, bV, kV3⟩); clear h1 k1 bV kV3)
        | ((with_reducible refine Calls.mono CB.out ?_); rintro e w1 ⟨rfl, h1⟩; have k1 := kB.out.then h1; obtain ⟨⟨p0, -⟩, ⟨p1, -⟩, p2, -⟩ := cells_of (k1.blk HB8.out id); have p3 := k1.cell HO8.out id; have hz : w1.heap[wc.heap.size]? = some (.cells #[.int .i64 0, .int .i64 0, .int .i64 0] 23 (0, 0)) := h1.blk zB.out id; obtain ⟨V1, V2, V3, e1, e2, e3, ⟨x1, y1⟩, ⟨x2, y2⟩, ⟨x3, y3⟩, bV, kV⟩ := store3 hz (.int .i64 Y.fg) (.int .i64 Y.bg) (.int .i64 Y.fl); have kV3 : Kept (fun _ => False) wc V3 := k1.trans (kV.mono fun i _ hi => Or.inr (by have h9 : i = wc.heap.size := hi; omega)); obtain ⟨⟨q0, -⟩, ⟨q1, -⟩, q2, -⟩ := cells_of (kV3.blk HB8.out id); have q3 := kV3.cell HO8.out id; have HM := Lib.hid (show ∃ p, (Value.pointer (some ⟨wc.heap.size, 0, none⟩)) = .pointer (some ⟨p, 0, none⟩) ∧ V3.heap[p]? = some (.cells (cells3 Y) 23 (0, 0)) ∧ Kept (fun _ => False) wc V3 from ⟨_, rfl, bV, kV3⟩); clear h1 k1 bV kV kV3 hz)
        | ((with_reducible refine Calls.mono CC.out ?_); rintro e w1 ⟨rfl, h1⟩; have k1 := kC.out.then h1; obtain ⟨⟨p0, -⟩, ⟨p1, -⟩, p2, -⟩ := cells_of (k1.blk HB8.out id); have p3 := k1.cell HO8.out id; have hz : w1.heap[(wc.heap.size + 1)]? = some (.cells #[.int .i64 0, .int .i64 0, .int .i64 0] 23 (0, 0)) := h1.blk zC.out id; obtain ⟨V1, V2, V3, e1, e2, e3, ⟨x1, y1⟩, ⟨x2, y2⟩, ⟨x3, y3⟩, bV, kV⟩ := store3 hz (.int .i64 Y.fg) (.int .i64 Y.bg) (.int .i64 Y.fl); have kV3 : Kept (fun _ => False) wc V3 := k1.trans (kV.mono fun i _ hi => Or.inr (by have h9 : i = (wc.heap.size + 1) := hi; omega)); obtain ⟨⟨q0, -⟩, ⟨q1, -⟩, q2, -⟩ := cells_of (kV3.blk HB8.out id); have q3 := kV3.cell HO8.out id; have HM := Lib.hid (show ∃ p, (Value.pointer (some ⟨(wc.heap.size + 1), 0, none⟩)) = .pointer (some ⟨p, 0, none⟩) ∧ V3.heap[p]? = some (.cells (cells3 Y) 23 (0, 0)) ∧ Kept (fun _ => False) wc V3 from ⟨_, rfl, bV, kV3⟩); clear h1 k1 bV kV kV3 hz)))
      all_goals
        go_wp2_with fail
        go_meet
        obtain ⟨p, hp, hb, hk⟩ := HM.out
        exact ⟨p, hp, hb, hk⟩
    case rest =>
      obtain ⟨p9, rfl, b9, k9⟩ := hcut
      have HB9 := Lib.hid b9
      have HK9 := Lib.hid (HK8.out.then k9)
      have HB8' := Lib.hid (k9.blk HB8.out id)
      clear b9 k9 ex
      obtain ⟨⟨c0, -⟩, ⟨c1, -⟩, c2, -⟩ := cells_of (HK9.out.blk HA.out id)
      have DA := Lib.hid (fun (V' : World) (hb : V'.heap[wc.heap.size]? = some (.cells #[.int .i64 1, .int .i64 2] 3 (0, 0))) => show Calls Try.prog 9 #[.agg #[.int .i64 a.fg, .int .i64 a.bg, .int .i64 a.fl], .slice (some ⟨wc.heap.size, 0, none⟩) 2 2] V' fun e w' => e = .returned (.agg #[.int .i64 Z.fg, .int .i64 Z.bg, .int .i64 Z.fl]) ∧ Kept (fun _ => False) V' w' from by
        have h := apply_any (a := a) (argBlk hb [1, 2] 2 rfl rfl (by intro x hx; simp at hx; unfold In; omega) (by omega)) HIn.out
        rw [HL3.out] at h
        exact h)
      go_wp2_with fail
      refine (DA.out _ (blk_new _ _)).mono ?_; rintro e v1 ⟨rfl, h1⟩
      have k1 := ((Kept.refl (fun _ => False) wc).alloc _).then h1
      have HB := Lib.hid (fun (V' : World) (hb : V'.heap[v1.heap.size]? = some (.cells #[.int .i64 22] 3 (0, 0))) => show Calls Try.prog 9 #[.agg #[.int .i64 Z.fg, .int .i64 Z.bg, .int .i64 Z.fl], .slice (some ⟨v1.heap.size, 0, none⟩) 1 1] V' fun e w' => e = .returned (.agg #[.int .i64 U.fg, .int .i64 U.bg, .int .i64 U.fl]) ∧ Kept (fun _ => False) V' w' from by
        have h := apply_any (a := Z) (argBlk hb [22] 1 rfl rfl (by intro x hx; simp at hx; unfold In; omega) (by omega)) HIZ.out
        rw [HL4.out] at h
        exact h)
      have K1 := Lib.hid k1
      clear k1 h1
      go_wp2_with fail
      refine (HB.out _ (blk_new _ _)).mono ?_; rintro e v2 ⟨rfl, h2⟩
      have k2 := (K1.out.alloc _).then h2
      obtain ⟨G, hG⟩ : ∃ G, v2.alloc (.cells #[.int .i64 U.fg, .int .i64 U.bg, .int .i64 U.fl] 23) = G := ⟨_, rfl⟩
      have kG : Kept (fun _ => False) wc G := (by rw [← hG]; exact k2.alloc _)
      have bu : G.heap[v2.heap.size]? = some (.cells (cells3 U) 23 (0, 0)) := (by rw [← hG]; exact blk_new _ _)
      have kk := HK.out.then (HK9.out.then kG)
      have HKK := Lib.hid kk
      have HCZ := Lib.hid (fun (V' : World) (hb : Kept (fun _ => False) G V') => show Calls Try.prog 9 #[.agg #[.int .i64 X.fg, .int .i64 X.bg, .int .i64 X.fl], .slice none 0 0] V' fun e w' => e = .returned (.agg #[.int .i64 0, .int .i64 0, .int .i64 0]) ∧ Kept (fun _ => False) V' w' from apply_none X none 0 V')
      obtain ⟨⟨a0, -⟩, ⟨a1, -⟩, a2, -⟩ := cells_of ((HK9.out.then kG).blk HA.out id)
      obtain ⟨⟨x0, -⟩, ⟨x1, -⟩, x2, -⟩ := cells_of (kG.blk HB8'.out id)
      obtain ⟨⟨y0, -⟩, ⟨y1, -⟩, y2, -⟩ := cells_of (kG.blk HB9.out id)
      obtain ⟨⟨u0', -⟩, ⟨u1', -⟩, u2', -⟩ := cells_of bu
      have f0 := (HK9.out.then kG).cell HF.out id
      have A0 := cell_regrown a0
      have A1 := cell_regrown a1
      have A2 := cell_regrown a2
      have X0 := cell_regrown x0
      have X1 := cell_regrown x1
      have X2 := cell_regrown x2
      have Y0 := cell_regrown y0
      have Y1 := cell_regrown y1
      have Y2 := cell_regrown y2
      have U2 := cell_regrown u2'
      have F0 := cell_regrown f0
      have xo : bits .or .i64 a.fl f = X.fl := (by rw [← HX.out]; rfl)
      have ys : bits .andNot .i64 a.fl f = Y.fl := (by rw [← HY.out]; rfl)
      have us : bits .andNot .i64 a.fl 3 = U.fl := (by rw [← HU.out]; rfl)
      have yf : Y.fg = a.fg := (by rw [← HY.out])
      have yb : Y.bg = a.bg := (by rw [← HY.out])
      have q1 := run_eqLook ⟨0, 0, 0⟩ ⟨0, 0, 0⟩
      have q3 := @run_eqGuard_agg Try.prog
      clear a0 a1 a2 x0 x1 x2 y0 y1 y2 u0' u1' u2' f0 c0 c1 c2 h2 k2 kG bu kk
      go_wp2
      refine wp_region_quiet_below (by kernel_rfl) (by kernel_rfl) ?_
      repeat (quiet_step (with_reducible exact quietC HCZ.out))
      refine wpQuiet_nil ?_
      rintro _ ⟨⟨dd, os⟩, rfl⟩
      go_wp2
      go_ret
      exact ⟨rfl, HKK.out.then (kept_of_regrown dd os)⟩
set_option maxRecDepth 100000 in
set_option maxHeartbeats 8000000 in
theorem flags_neg (a : Look) (ha : a.In) (n : Int) (k : Nat) (hk6 : k < 6) (w : World) (h : rightB a = true) (hn : n.tmod 6 = -(k : Int)) (h0 : 0 < k) :
    Calls Try.prog 6 #[.agg #[.int .i64 a.fg, .int .i64 a.bg, .int .i64 a.fl], .int .i64 n] w fun e w' => e = .returned (.bool true) ∧ Kept (fun _ => False) w w' := by
  have D := Lib.hid (fun w => show Calls Try.prog 11 #[.agg #[.int .i64 a.fg, .int .i64 a.bg, .int .i64 a.fl]] w fun e w' => e = .returned (.bool true) ∧ Kept (fun _ => False) w w' from by rw [← h]; exact right_any a w)
  obtain ⟨o, f, ho, hf, o1, o2, o3, o4, o5, o6⟩ := on_facts k hk6
  have l1 := ap_set a o f o1 o2 o4
  have l2 := ap_unset a o f o1 o2 o4
  have l3 := ap_two a
  have l4 := ap_un2 a
  have inX : ({ a with fl := orI a.fl f } : Look).In := ⟨ha.1, ha.2.1, or_in _ _⟩
  have inZ : ({ a with fl := orI (orI a.fl 1) 2 } : Look).In := ⟨ha.1, ha.2.1, or_in _ _⟩
  have HIn := Lib.hid ha
  clear h o3 o4
  go_enter Try.func6, Try.ntmps6
  go_wp2_with fail
  refine (known_any _).mono ?_; rintro e w1 ⟨rfl, hk⟩
  have b1 := hk.blk (blk_new w _) id
  have k1 := ((Kept.refl (fun _ => False) w).alloc _).then hk
  obtain ⟨⟨c0, f0⟩, ⟨c1, f1⟩, c2, f2⟩ := blk3 b1
  have HB1 := Lib.hid b1
  clear hk b1
  go_wp2_with fail
  refine (D.out _).mono ?_; rintro e w2 ⟨rfl, hk⟩
  have k2 := k1.then hk
  obtain ⟨V, hV⟩ : ∃ V, (w2.alloc (.cells #[.int .i64 3, .int .i64 4, .int .i64 5, .int .i64 7, .int .i64 8, .int .i64 9] 3)).alloc (.cells #[.int .i64 4, .int .i64 8, .int .i64 16, .int .i64 32, .int .i64 64, .int .i64 128] 3) = V := ⟨_, rfl⟩
  have kV : Kept (fun _ => False) w2 V := by rw [← hV]; exact ((Kept.refl _ w2).alloc _).alloc _
  have bo : V.heap[w2.heap.size]? = some (.cells #[.int .i64 3, .int .i64 4, .int .i64 5, .int .i64 7, .int .i64 8, .int .i64 9] 3 (0, 0)) := by rw [← hV]; exact blk_alloc (blk_new _ _) _
  have bl : V.heap[w2.heap.size + 1]? = some (.cells #[.int .i64 4, .int .i64 8, .int .i64 16, .int .i64 32, .int .i64 64, .int .i64 128] 3 (0, 0)) := by rw [← hV]; exact blk_at _ _ (by simp)
  have ba := (hk.then kV).blk HB1.out id
  have kk := k2.then kV
  have xo := cell_on bo k hk6
  have xf := cell_fl bl k hk6
  rw [ho] at xo
  rw [hf] at xf
  have HO := Lib.hid xo
  have HF := Lib.hid xf
  have HA := Lib.hid (show V.heap[w.heap.size]? = some (.cells (cells3 a) 23 (0, 0)) from ba)
  have HK := Lib.hid kk
  have i0 : (0 : Int) ≤ (k : Int) := by omega
  have i1 : (k : Int) < 6 := by omega
  clear hk bo bl ba kk k1 k2 kV hf ho f0 f1 f2 c0 c1 c2 xo xf
  have gn : decide (-(k : Int) < 0) = true := decide_eq_true (by omega)
  go_upto_region 10 with fail
  clear gn hn
  obtain ⟨X, hX⟩ : ∃ X, ({ a with fl := orI a.fl f } : Look) = X := ⟨_, rfl⟩
  obtain ⟨Y, hY⟩ : ∃ X, ({ a with fl := subI a.fl f } : Look) = X := ⟨_, rfl⟩
  obtain ⟨Z, hZ⟩ : ∃ X, ({ a with fl := orI (orI a.fl 1) 2 } : Look) = X := ⟨_, rfl⟩
  obtain ⟨U, hU⟩ : ∃ X, ({ a with fl := subI a.fl 3 } : Look) = X := ⟨_, rfl⟩
  rw [hX] at l1 l2 inX
  rw [hY] at l2
  rw [hZ] at l3 l4 inZ
  rw [hU] at l4
  have HL1 := Lib.hid l1
  have HL2 := Lib.hid l2
  have HL3 := Lib.hid l3
  have HL4 := Lib.hid l4
  have HIX := Lib.hid inX
  have HIZ := Lib.hid inZ
  have HX := Lib.hid hX
  have HY := Lib.hid hY
  have HU := Lib.hid hU
  clear l1 l2 l3 l4 inX inZ hX hY hZ hU
  go_cut [8] (fun v wx => Made V X v wx)
  case first =>
    have HC := Lib.hid (fun (V' : World) (p : Nat) (hk : Kept (fun _ => False) V V') (hb : V'.heap[p]? = some (.cells #[.int .i64 o] 3 (0, 0))) => show Calls Try.prog 9 #[.agg #[.int .i64 a.fg, .int .i64 a.bg, .int .i64 a.fl], .slice (some ⟨p, 0, none⟩) 1 1] V' fun e w' => e = .returned (.agg #[.int .i64 X.fg, .int .i64 X.bg, .int .i64 X.fl]) ∧ Kept (fun _ => False) V' w' from by
      have h := apply_any (a := a) (argBlk hb [o] 1 rfl rfl (by intro x hx; simp at hx; unfold In; omega) (by omega)) HIn.out
      rw [HL1.out] at h
      exact h)
    obtain ⟨⟨c0, -⟩, ⟨c1, -⟩, c2, -⟩ := cells_of HA.out
    have c3 := HO.out
    have CA := Lib.hid (HC.out (V.alloc (.cells #[.int .i64 o] 3)).drew V.heap.size (((Kept.refl (fun _ => False) V).alloc (.cells #[.int .i64 o] 3)).drew) (blk_drew (blk_new _ _)))
    have kA := (((Kept.refl (fun _ => False) V).alloc (.cells #[.int .i64 o] 3)).drew)
    have CB := Lib.hid (HC.out ((V.alloc (.cells #[.int .i64 0, .int .i64 0, .int .i64 0] 23)).alloc (.cells #[.int .i64 o] 3)).drew (V.heap.size + 1) ((((Kept.refl (fun _ => False) V).alloc (.cells #[.int .i64 0, .int .i64 0, .int .i64 0] 23)).alloc (.cells #[.int .i64 o] 3)).drew) (blk_drew (blk_at _ _ (by simp))))
    have CC := Lib.hid (HC.out ((V.alloc (.cells #[.int .i64 o] 3)).alloc (.cells #[.int .i64 0, .int .i64 0, .int .i64 0] 23)).drew V.heap.size ((((Kept.refl (fun _ => False) V).alloc (.cells #[.int .i64 o] 3)).alloc (.cells #[.int .i64 0, .int .i64 0, .int .i64 0] 23)).drew) (blk_drew (blk_alloc (blk_new _ _) _)))
    have kA := Lib.hid (((Kept.refl (fun _ => False) V).alloc (.cells #[.int .i64 o] 3)).drew)
    have kB := Lib.hid ((((Kept.refl (fun _ => False) V).alloc (.cells #[.int .i64 0, .int .i64 0, .int .i64 0] 23)).alloc (.cells #[.int .i64 o] 3)).drew)
    have kC := Lib.hid ((((Kept.refl (fun _ => False) V).alloc (.cells #[.int .i64 o] 3)).alloc (.cells #[.int .i64 0, .int .i64 0, .int .i64 0] 23)).drew)
    have zB := Lib.hid (show ((V.alloc (.cells #[.int .i64 0, .int .i64 0, .int .i64 0] 23)).alloc (.cells #[.int .i64 o] 3)).drew.heap[V.heap.size]? = some (.cells #[.int .i64 0, .int .i64 0, .int .i64 0] 23) from blk_drew (blk_alloc (blk_new _ _) _))
    have zC := Lib.hid (show ((V.alloc (.cells #[.int .i64 o] 3)).alloc (.cells #[.int .i64 0, .int .i64 0, .int .i64 0] 23)).drew.heap[V.heap.size + 1]? = some (.cells #[.int .i64 0, .int .i64 0, .int .i64 0] 23) from blk_drew (blk_at _ _ (by simp)))
    go_region_held3 (fun w' => w'.cell? ⟨w.heap.size, 0, none⟩ = some (.int .i64 a.fg) ∧ w'.cell? ⟨w.heap.size, 1, none⟩ = some (.int .i64 a.bg) ∧ w'.cell? ⟨w.heap.size, 2, none⟩ = some (.int .i64 a.fl) ∧ w'.cell? ⟨w2.heap.size, k, none⟩ = some (.int .i64 o)) (first | ((go_keep; done)) | (go_split_ands; all_goals go_keep)) ((go_at_call 9; first
      | ((with_reducible refine Calls.mono CA.out ?_); rintro e w1 ⟨rfl, h1⟩; have k1 := kA.out.then h1; obtain ⟨⟨p0, -⟩, ⟨p1, -⟩, p2, -⟩ := cells_of (k1.blk HA.out id); have p3 := k1.cell HO.out id; obtain ⟨V3, hV3⟩ : ∃ V3, w1.alloc (.cells #[.int .i64 X.fg, .int .i64 X.bg, .int .i64 X.fl] 23) = V3 := ⟨_, rfl⟩; have bV : V3.heap[w1.heap.size]? = some (.cells (cells3 X) 23 (0, 0)) := (by rw [← hV3]; exact blk_new _ _); have kV3 : Kept (fun _ => False) V V3 := (by rw [← hV3]; exact k1.alloc _); obtain ⟨⟨q0, -⟩, ⟨q1, -⟩, q2, -⟩ := cells_of (kV3.blk HA.out id); have q3 := kV3.cell HO.out id; have HM := Lib.hid (show ∃ p, (Value.pointer (some ⟨w1.heap.size, 0, none⟩)) = .pointer (some ⟨p, 0, none⟩) ∧ V3.heap[p]? = some (.cells (cells3 X) 23 (0, 0)) ∧ Kept (fun _ => False) V V3 from ⟨_, rfl, bV, kV3⟩); clear h1 k1 bV kV3)
      | ((with_reducible refine Calls.mono CB.out ?_); rintro e w1 ⟨rfl, h1⟩; have k1 := kB.out.then h1; obtain ⟨⟨p0, -⟩, ⟨p1, -⟩, p2, -⟩ := cells_of (k1.blk HA.out id); have p3 := k1.cell HO.out id; have hz : w1.heap[V.heap.size]? = some (.cells #[.int .i64 0, .int .i64 0, .int .i64 0] 23 (0, 0)) := h1.blk zB.out id; obtain ⟨V1, V2, V3, e1, e2, e3, ⟨x1, y1⟩, ⟨x2, y2⟩, ⟨x3, y3⟩, bV, kV⟩ := store3 hz (.int .i64 X.fg) (.int .i64 X.bg) (.int .i64 X.fl); have kV3 : Kept (fun _ => False) V V3 := k1.trans (kV.mono fun i _ hi => Or.inr (by have h9 : i = V.heap.size := hi; omega)); obtain ⟨⟨q0, -⟩, ⟨q1, -⟩, q2, -⟩ := cells_of (kV3.blk HA.out id); have q3 := kV3.cell HO.out id; have HM := Lib.hid (show ∃ p, (Value.pointer (some ⟨V.heap.size, 0, none⟩)) = .pointer (some ⟨p, 0, none⟩) ∧ V3.heap[p]? = some (.cells (cells3 X) 23 (0, 0)) ∧ Kept (fun _ => False) V V3 from ⟨_, rfl, bV, kV3⟩); clear h1 k1 bV kV kV3 hz)
      | ((with_reducible refine Calls.mono CC.out ?_); rintro e w1 ⟨rfl, h1⟩; have k1 := kC.out.then h1; obtain ⟨⟨p0, -⟩, ⟨p1, -⟩, p2, -⟩ := cells_of (k1.blk HA.out id); have p3 := k1.cell HO.out id; have hz : w1.heap[(V.heap.size + 1)]? = some (.cells #[.int .i64 0, .int .i64 0, .int .i64 0] 23 (0, 0)) := h1.blk zC.out id; obtain ⟨V1, V2, V3, e1, e2, e3, ⟨x1, y1⟩, ⟨x2, y2⟩, ⟨x3, y3⟩, bV, kV⟩ := store3 hz (.int .i64 X.fg) (.int .i64 X.bg) (.int .i64 X.fl); have kV3 : Kept (fun _ => False) V V3 := k1.trans (kV.mono fun i _ hi => Or.inr (by have h9 : i = (V.heap.size + 1) := hi; omega)); obtain ⟨⟨q0, -⟩, ⟨q1, -⟩, q2, -⟩ := cells_of (kV3.blk HA.out id); have q3 := kV3.cell HO.out id; have HM := Lib.hid (show ∃ p, (Value.pointer (some ⟨(V.heap.size + 1), 0, none⟩)) = .pointer (some ⟨p, 0, none⟩) ∧ V3.heap[p]? = some (.cells (cells3 X) 23 (0, 0)) ∧ Kept (fun _ => False) V V3 from ⟨_, rfl, bV, kV3⟩); clear h1 k1 bV kV kV3 hz)))
    all_goals
      go_wp2_with fail
      go_meet
      obtain ⟨p, hp, hb, hk⟩ := HM.out
      exact ⟨p, hp, hb, hk⟩
  case rest =>
    obtain ⟨p8, rfl, b8, k8⟩ := hcut
    have HB8 := Lib.hid b8
    have HK8 := Lib.hid k8
    have ex : IntKind.i64.wrap (o + 20) = o + 20 := IntWalk.i64_in _ (by omega)
    clear b8 k8
    go_upto_region 11 with fail
    go_cut [9] (fun v wx => Made wc Y v wx)
    case first =>
      have HC := Lib.hid (fun (V' : World) (p : Nat) (hk : Kept (fun _ => False) wc V') (hb : V'.heap[p]? = some (.cells #[.int .i64 (o + 20)] 3 (0, 0))) => show Calls Try.prog 9 #[.agg #[.int .i64 X.fg, .int .i64 X.bg, .int .i64 X.fl], .slice (some ⟨p, 0, none⟩) 1 1] V' fun e w' => e = .returned (.agg #[.int .i64 Y.fg, .int .i64 Y.bg, .int .i64 Y.fl]) ∧ Kept (fun _ => False) V' w' from by
        have h := apply_any (a := X) (argBlk hb [(o + 20)] 1 rfl rfl (by intro x hx; simp at hx; unfold In; omega) (by omega)) HIX.out
        rw [HL2.out] at h
        exact h)
      obtain ⟨⟨c0, -⟩, ⟨c1, -⟩, c2, -⟩ := cells_of HB8.out
      have HO8 := Lib.hid (HK8.out.cell HO.out id)
      have c3 := HO8.out
      have CA := Lib.hid (HC.out (wc.alloc (.cells #[.int .i64 (o + 20)] 3)).drew wc.heap.size (((Kept.refl (fun _ => False) wc).alloc (.cells #[.int .i64 (o + 20)] 3)).drew) (blk_drew (blk_new _ _)))
      have kA := (((Kept.refl (fun _ => False) wc).alloc (.cells #[.int .i64 (o + 20)] 3)).drew)
      have CB := Lib.hid (HC.out ((wc.alloc (.cells #[.int .i64 0, .int .i64 0, .int .i64 0] 23)).alloc (.cells #[.int .i64 (o + 20)] 3)).drew (wc.heap.size + 1) ((((Kept.refl (fun _ => False) wc).alloc (.cells #[.int .i64 0, .int .i64 0, .int .i64 0] 23)).alloc (.cells #[.int .i64 (o + 20)] 3)).drew) (blk_drew (blk_at _ _ (by simp))))
      have CC := Lib.hid (HC.out ((wc.alloc (.cells #[.int .i64 (o + 20)] 3)).alloc (.cells #[.int .i64 0, .int .i64 0, .int .i64 0] 23)).drew wc.heap.size ((((Kept.refl (fun _ => False) wc).alloc (.cells #[.int .i64 (o + 20)] 3)).alloc (.cells #[.int .i64 0, .int .i64 0, .int .i64 0] 23)).drew) (blk_drew (blk_alloc (blk_new _ _) _)))
      have kA := Lib.hid (((Kept.refl (fun _ => False) wc).alloc (.cells #[.int .i64 (o + 20)] 3)).drew)
      have kB := Lib.hid ((((Kept.refl (fun _ => False) wc).alloc (.cells #[.int .i64 0, .int .i64 0, .int .i64 0] 23)).alloc (.cells #[.int .i64 (o + 20)] 3)).drew)
      have kC := Lib.hid ((((Kept.refl (fun _ => False) wc).alloc (.cells #[.int .i64 (o + 20)] 3)).alloc (.cells #[.int .i64 0, .int .i64 0, .int .i64 0] 23)).drew)
      have zB := Lib.hid (show ((wc.alloc (.cells #[.int .i64 0, .int .i64 0, .int .i64 0] 23)).alloc (.cells #[.int .i64 (o + 20)] 3)).drew.heap[wc.heap.size]? = some (.cells #[.int .i64 0, .int .i64 0, .int .i64 0] 23) from blk_drew (blk_alloc (blk_new _ _) _))
      have zC := Lib.hid (show ((wc.alloc (.cells #[.int .i64 (o + 20)] 3)).alloc (.cells #[.int .i64 0, .int .i64 0, .int .i64 0] 23)).drew.heap[wc.heap.size + 1]? = some (.cells #[.int .i64 0, .int .i64 0, .int .i64 0] 23) from blk_drew (blk_at _ _ (by simp)))
      go_region_held3 (fun w' => w'.cell? ⟨p8, 0, none⟩ = some (.int .i64 X.fg) ∧ w'.cell? ⟨p8, 1, none⟩ = some (.int .i64 X.bg) ∧ w'.cell? ⟨p8, 2, none⟩ = some (.int .i64 X.fl) ∧ w'.cell? ⟨w2.heap.size, k, none⟩ = some (.int .i64 o)) (first | ((go_keep; done)) | (go_split_ands; all_goals go_keep)) ((go_at_call 9; first
        | ((with_reducible refine Calls.mono CA.out ?_); rintro e w1 ⟨rfl, h1⟩; have k1 := kA.out.then h1; obtain ⟨⟨p0, -⟩, ⟨p1, -⟩, p2, -⟩ := cells_of (k1.blk HB8.out id); have p3 := k1.cell HO8.out id; obtain ⟨V3, hV3⟩ : ∃ V3, w1.alloc (.cells #[.int .i64 Y.fg, .int .i64 Y.bg, .int .i64 Y.fl] 23) = V3 := ⟨_, rfl⟩; have bV : V3.heap[w1.heap.size]? = some (.cells (cells3 Y) 23 (0, 0)) := (by rw [← hV3]; exact blk_new _ _); have kV3 : Kept (fun _ => False) wc V3 := (by rw [← hV3]; exact k1.alloc _); obtain ⟨⟨q0, -⟩, ⟨q1, -⟩, q2, -⟩ := cells_of (kV3.blk HB8.out id); have q3 := kV3.cell HO8.out id; have HM := Lib.hid (show ∃ p, (Value.pointer (some ⟨w1.heap.size, 0, none⟩)) = .pointer (some ⟨p, 0, none⟩) ∧ V3.heap[p]? = some (.cells (cells3 Y) 23 (0, 0)) ∧ Kept (fun _ => False) wc V3 from ⟨_, rfl, bV, kV3⟩); clear h1 k1 bV kV3)
        | ((with_reducible refine Calls.mono CB.out ?_); rintro e w1 ⟨rfl, h1⟩; have k1 := kB.out.then h1; obtain ⟨⟨p0, -⟩, ⟨p1, -⟩, p2, -⟩ := cells_of (k1.blk HB8.out id); have p3 := k1.cell HO8.out id; have hz : w1.heap[wc.heap.size]? = some (.cells #[.int .i64 0, .int .i64 0, .int .i64 0] 23 (0, 0)) := h1.blk zB.out id; obtain ⟨V1, V2, V3, e1, e2, e3, ⟨x1, y1⟩, ⟨x2, y2⟩, ⟨x3, y3⟩, bV, kV⟩ := store3 hz (.int .i64 Y.fg) (.int .i64 Y.bg) (.int .i64 Y.fl); have kV3 : Kept (fun _ => False) wc V3 := k1.trans (kV.mono fun i _ hi => Or.inr (by have h9 : i = wc.heap.size := hi; omega)); obtain ⟨⟨q0, -⟩, ⟨q1, -⟩, q2, -⟩ := cells_of (kV3.blk HB8.out id); have q3 := kV3.cell HO8.out id; have HM := Lib.hid (show ∃ p, (Value.pointer (some ⟨wc.heap.size, 0, none⟩)) = .pointer (some ⟨p, 0, none⟩) ∧ V3.heap[p]? = some (.cells (cells3 Y) 23 (0, 0)) ∧ Kept (fun _ => False) wc V3 from ⟨_, rfl, bV, kV3⟩); clear h1 k1 bV kV kV3 hz)
        | ((with_reducible refine Calls.mono CC.out ?_); rintro e w1 ⟨rfl, h1⟩; have k1 := kC.out.then h1; obtain ⟨⟨p0, -⟩, ⟨p1, -⟩, p2, -⟩ := cells_of (k1.blk HB8.out id); have p3 := k1.cell HO8.out id; have hz : w1.heap[(wc.heap.size + 1)]? = some (.cells #[.int .i64 0, .int .i64 0, .int .i64 0] 23 (0, 0)) := h1.blk zC.out id; obtain ⟨V1, V2, V3, e1, e2, e3, ⟨x1, y1⟩, ⟨x2, y2⟩, ⟨x3, y3⟩, bV, kV⟩ := store3 hz (.int .i64 Y.fg) (.int .i64 Y.bg) (.int .i64 Y.fl); have kV3 : Kept (fun _ => False) wc V3 := k1.trans (kV.mono fun i _ hi => Or.inr (by have h9 : i = (wc.heap.size + 1) := hi; omega)); obtain ⟨⟨q0, -⟩, ⟨q1, -⟩, q2, -⟩ := cells_of (kV3.blk HB8.out id); have q3 := kV3.cell HO8.out id; have HM := Lib.hid (show ∃ p, (Value.pointer (some ⟨(wc.heap.size + 1), 0, none⟩)) = .pointer (some ⟨p, 0, none⟩) ∧ V3.heap[p]? = some (.cells (cells3 Y) 23 (0, 0)) ∧ Kept (fun _ => False) wc V3 from ⟨_, rfl, bV, kV3⟩); clear h1 k1 bV kV kV3 hz)))
      all_goals
        go_wp2_with fail
        go_meet
        obtain ⟨p, hp, hb, hk⟩ := HM.out
        exact ⟨p, hp, hb, hk⟩
    case rest =>
      obtain ⟨p9, rfl, b9, k9⟩ := hcut
      have HB9 := Lib.hid b9
      have HK9 := Lib.hid (HK8.out.then k9)
      have HB8' := Lib.hid (k9.blk HB8.out id)
      clear b9 k9 ex
      obtain ⟨⟨c0, -⟩, ⟨c1, -⟩, c2, -⟩ := cells_of (HK9.out.blk HA.out id)
      have DA := Lib.hid (fun (V' : World) (hb : V'.heap[wc.heap.size]? = some (.cells #[.int .i64 1, .int .i64 2] 3 (0, 0))) => show Calls Try.prog 9 #[.agg #[.int .i64 a.fg, .int .i64 a.bg, .int .i64 a.fl], .slice (some ⟨wc.heap.size, 0, none⟩) 2 2] V' fun e w' => e = .returned (.agg #[.int .i64 Z.fg, .int .i64 Z.bg, .int .i64 Z.fl]) ∧ Kept (fun _ => False) V' w' from by
        have h := apply_any (a := a) (argBlk hb [1, 2] 2 rfl rfl (by intro x hx; simp at hx; unfold In; omega) (by omega)) HIn.out
        rw [HL3.out] at h
        exact h)
      go_wp2_with fail
      refine (DA.out _ (blk_new _ _)).mono ?_; rintro e v1 ⟨rfl, h1⟩
      have k1 := ((Kept.refl (fun _ => False) wc).alloc _).then h1
      have HB := Lib.hid (fun (V' : World) (hb : V'.heap[v1.heap.size]? = some (.cells #[.int .i64 22] 3 (0, 0))) => show Calls Try.prog 9 #[.agg #[.int .i64 Z.fg, .int .i64 Z.bg, .int .i64 Z.fl], .slice (some ⟨v1.heap.size, 0, none⟩) 1 1] V' fun e w' => e = .returned (.agg #[.int .i64 U.fg, .int .i64 U.bg, .int .i64 U.fl]) ∧ Kept (fun _ => False) V' w' from by
        have h := apply_any (a := Z) (argBlk hb [22] 1 rfl rfl (by intro x hx; simp at hx; unfold In; omega) (by omega)) HIZ.out
        rw [HL4.out] at h
        exact h)
      have K1 := Lib.hid k1
      clear k1 h1
      go_wp2_with fail
      refine (HB.out _ (blk_new _ _)).mono ?_; rintro e v2 ⟨rfl, h2⟩
      have k2 := (K1.out.alloc _).then h2
      obtain ⟨G, hG⟩ : ∃ G, v2.alloc (.cells #[.int .i64 U.fg, .int .i64 U.bg, .int .i64 U.fl] 23) = G := ⟨_, rfl⟩
      have kG : Kept (fun _ => False) wc G := (by rw [← hG]; exact k2.alloc _)
      have bu : G.heap[v2.heap.size]? = some (.cells (cells3 U) 23 (0, 0)) := (by rw [← hG]; exact blk_new _ _)
      have kk := HK.out.then (HK9.out.then kG)
      have HKK := Lib.hid kk
      have HCZ := Lib.hid (fun (V' : World) (hb : Kept (fun _ => False) G V') => show Calls Try.prog 9 #[.agg #[.int .i64 X.fg, .int .i64 X.bg, .int .i64 X.fl], .slice none 0 0] V' fun e w' => e = .returned (.agg #[.int .i64 0, .int .i64 0, .int .i64 0]) ∧ Kept (fun _ => False) V' w' from apply_none X none 0 V')
      obtain ⟨⟨a0, -⟩, ⟨a1, -⟩, a2, -⟩ := cells_of ((HK9.out.then kG).blk HA.out id)
      obtain ⟨⟨x0, -⟩, ⟨x1, -⟩, x2, -⟩ := cells_of (kG.blk HB8'.out id)
      obtain ⟨⟨y0, -⟩, ⟨y1, -⟩, y2, -⟩ := cells_of (kG.blk HB9.out id)
      obtain ⟨⟨u0', -⟩, ⟨u1', -⟩, u2', -⟩ := cells_of bu
      have f0 := (HK9.out.then kG).cell HF.out id
      have A0 := cell_regrown a0
      have A1 := cell_regrown a1
      have A2 := cell_regrown a2
      have X0 := cell_regrown x0
      have X1 := cell_regrown x1
      have X2 := cell_regrown x2
      have Y0 := cell_regrown y0
      have Y1 := cell_regrown y1
      have Y2 := cell_regrown y2
      have U2 := cell_regrown u2'
      have F0 := cell_regrown f0
      have xo : bits .or .i64 a.fl f = X.fl := (by rw [← HX.out]; rfl)
      have ys : bits .andNot .i64 a.fl f = Y.fl := (by rw [← HY.out]; rfl)
      have us : bits .andNot .i64 a.fl 3 = U.fl := (by rw [← HU.out]; rfl)
      have yf : Y.fg = a.fg := (by rw [← HY.out])
      have yb : Y.bg = a.bg := (by rw [← HY.out])
      have q1 := run_eqLook ⟨0, 0, 0⟩ ⟨0, 0, 0⟩
      have q3 := @run_eqGuard_agg Try.prog
      clear a0 a1 a2 x0 x1 x2 y0 y1 y2 u0' u1' u2' f0 c0 c1 c2 h2 k2 kG bu kk
      go_wp2
      refine wp_region_quiet_below (by kernel_rfl) (by kernel_rfl) ?_
      repeat (quiet_step (with_reducible exact quietC HCZ.out))
      refine wpQuiet_nil ?_
      rintro _ ⟨⟨dd, os⟩, rfl⟩
      go_wp2
      go_ret
      exact ⟨rfl, HKK.out.then (kept_of_regrown dd os)⟩
theorem law_flags {x y z n : Int} {w : World} (f0 : (Lit.int .i64 x).wf = true ∧ (Lit.int .i64 y).wf = true ∧ (Lit.int .i64 z).wf = true) (f1 : (Lit.int .i64 n).wf = true) :
    Calls Try.prog 6 #[.agg #[.int .i64 x, .int .i64 y, .int .i64 z], .int .i64 n] w fun e w' => e = .returned (.bool true) ∧ Below w.heap.size w w' := by
  refine Calls.mono (R := fun e w' => e = .returned (.bool true) ∧ Kept (fun _ => False) w w') ?_ fun _ _ h => ⟨h.1, h.2.below⟩
  have ha : (⟨x, y, z⟩ : Look).In := ⟨in_of_wf f0.1, in_of_wf f0.2.1, in_of_wf f0.2.2⟩
  cases hr : rightB ⟨x, y, z⟩ with
  | false => exact flags_early ⟨x, y, z⟩ n w hr
  | true =>
    have hm : n.tmod 6 < 6 ∧ -6 < n.tmod 6 := by
      rcases Int.lt_or_le n 0 with h | h
      · have h1 : n.tmod 6 = -((-n).tmod 6) := by rw [Int.neg_tmod, Int.neg_neg]
        rw [Int.tmod_eq_emod_of_nonneg (show 0 ≤ -n by omega)] at h1
        omega
      · rw [Int.tmod_eq_emod_of_nonneg h]; omega
    by_cases h0 : 0 ≤ n.tmod 6
    · exact flags_pos ⟨x, y, z⟩ ha n (n.tmod 6).toNat (by omega) w hr (by omega)
    · exact flags_neg ⟨x, y, z⟩ ha n (-(n.tmod 6)).toNat (by omega) w hr (by omega) (by omega)
end Go.Proofs.Ytdcbaobipogmnaa
