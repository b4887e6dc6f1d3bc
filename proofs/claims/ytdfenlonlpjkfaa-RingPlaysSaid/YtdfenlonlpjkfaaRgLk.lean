/- Do both tell the same? -/
import Derived.Test.YtdfenlonlpjkfaaRgIt
import Derived.Test.YtdfenlonlpjkfaaRound
namespace Go.Proofs.Ytdfenlonlpjkfaa
open Go.RowKit Go.Shelf
set_option linter.unusedVariables false
set_option linter.unusedSimpArgs false
attribute [local go_sem] Oper.semAt_some D.growOp D.growUpon D.sameUpon D.ran
theorem it_stops (F : Fence) (n : Nat) (hF : F.fn 29) (hro : F.round = none) (hn : 1 ≤ n) (b c n₀ gone : Nat) (L : List Int) (a : Option Addr) (cap : Nat) (hL : L.length ≤ 65536) (hgo : gone ≤ 1000000) (hb : n₀ ≤ b) (hc : n₀ ≤ c)
    (w : World) (hb0 : w.cell? ⟨b, 0, none⟩ = some (.slice a L.length cap)) (hc0 : w.cell? ⟨c, 0, none⟩ = some (.int .i64 gone)) (hs : L.length = 0 ∨ ∃ g, a = some ⟨g, 0, none⟩ ∧ n₀ ≤ g ∧ ∀ j, j < L.length → w.cell? ⟨g, j, none⟩ = some (.int .i64 (L.getD j 0))) :
    SeqStopsK F n Try.prog 29 #[.pointer (some ⟨b, 0, none⟩), .pointer (some ⟨c, 0, none⟩)] enc2 (KpC n₀) (fun ys => ys = upto (nth gone L) L.length) (fun pre => ∃ k, k ≤ L.length ∧ pre = upto (nth gone L) k) L.length w := fun l J Jx W hW _ _ hY h0 => by
  have up : ∀ {p i : Nat} {v : Value}, w.cell? ⟨p, i, none⟩ = some v → W.cell? ⟨p, i, none⟩ = some v := fun {p i v} h => (hW.cell (p := ⟨p, i, none⟩) (lt_of_cell h)).trans h
  refine it_in F n hF hro hn l b c n₀ gone L a cap hL hgo hb hc J Jx hY W (up hb0) (up hc0) ?_ h0
  rcases hs with h | ⟨g, h1, h2, h3⟩
  · exact .inl h
  · exact .inr ⟨g, h1, h2, fun j hj => up (h3 j hj)⟩
theorem KpC.setCell {n : Nat} {W : World} {b i : Nat} (hb : b < n) (v : Value) : KpC n W (W.setCell ⟨b, i, none⟩ v) := by
  refine ⟨by simp, fun j hj c t f e => blk_set_other e (by simp; omega) v⟩
theorem Kept.others {A B : World} (h : Kept (fun _ => False) A B) : KeepsOthers A B := ⟨h.size, fun k o ho _ => h.blk ho id⟩
theorem Kept.kpC {A B : World} (h : Kept (fun _ => False) A B) (n : Nat) : KpC n A B := ⟨h.size, fun i _ c t f e => h.blk e id⟩
theorem not_upto {gone len k : Nat} {L : List Int} {pre : List (Int × Int)} {x : Int × Int} (hp : pre = upto (nth gone L) k) (hx : x ≠ nth gone L k) : ¬ ∃ k', k' ≤ len ∧ pre ++ [x] = upto (nth gone L) k' := by
  rintro ⟨k', -, h⟩
  have hl := congrArg List.length h
  rw [hp] at h hl
  simp only [List.length_append, upto_length, List.length_cons, List.length_nil] at hl
  obtain rfl : k' = k + 1 := by omega
  rw [upto_succ] at h
  have := List.append_cancel_left h
  simp at this
  exact hx this
theorem blk_grown {W W' : World} {row : Option Nat} (hg : W.grownBy W' row) (hr : ∀ r, row = some r → ∃ o : Obj, W.heap[r]? = some o ∧ o.isCells = false) {i : Nat} {c : Array Value} {t : TypeId} {f : Nat × Nat} (h : W.heap[i]? = some (.cells c t f)) : W'.heap[i]? = some (.cells c t f) := (grownBy_keeps_cells hg hr h rfl).trans h
theorem Kept.grownBy {S : Nat → Prop} {w W W' : World} {row : Option Nat} (h : Kept S w W) (hg : W.grownBy W' row) (hr : ∀ r, row = some r → w.heap.size ≤ r) : Kept S w W' := h.grown hg (fun k e => .inr (hr k e))
set_option maxRecDepth 100000 in
set_option maxHeartbeats 8000000 in
theorem looks_yes (q p most gone : Nat) (L : List Int) (o o2 : Option Nat) (i : Nat) (w : World) (hR : Rg w q most gone L o) (hF : FAt w p most gone L o2) (hm : most ≤ 65536) (hgo : gone ≤ 1000000) (hi : i < L.length) :
    Calls Try.prog 18 #[.pointer (some ⟨q, 0, none⟩), .pointer (some ⟨p, 0, none⟩), .int .i64 i] w fun e w' => e = .returned (.bool true) ∧ Kept (fun _ => False) w w' := by
  have hLm := hR.len
  have hFu := hF
  have HRF := Lib.hid (And.intro hR hF)
  obtain ⟨v2, hb2, ho2, -, -⟩ := hFu
  obtain ⟨a2, cap2, rfl, hs2, -, -, -, -⟩ := ho2.shape
  obtain ⟨len, hlen⟩ : ∃ len, L.length = len := ⟨_, rfl⟩
  have HLEN := Lib.hid hlen
  rw [hlen] at hb2 hs2 hi hLm
  have HS2 := Lib.hid hs2
  have HB2 := Lib.hid hb2
  obtain ⟨pb, hpb⟩ : ∃ pb, w.heap.size = pb := ⟨_, rfl⟩
  obtain ⟨W1, hW1⟩ : ∃ W, w.alloc (.cells #[.pointer (some ⟨p, 0, none⟩)] 35) = W := ⟨_, rfl⟩
  have k1 : Kept (fun _ => False) w W1 := by rw [← hW1]; exact (Kept.refl _ w).alloc _
  have bp1 : W1.heap[pb]? = some (.cells #[.pointer (some ⟨p, 0, none⟩)] 35 (0, 0)) := by rw [← hW1, ← hpb]; exact blk_new _ _
  have z1 : W1.heap.size = pb + 1 := by rw [← hW1, ← hpb]; simp
  obtain ⟨W2, hW2⟩ : ∃ W, W1.alloc (.cells #[.bool false] 4) = W := ⟨_, rfl⟩
  have k2 : Kept (fun _ => False) W1 W2 := by rw [← hW2]; exact (Kept.refl _ W1).alloc _
  have br2 : W2.heap[pb + 1]? = some (.cells #[.bool false] 4 (0, 0)) := by rw [← hW2, ← z1]; exact blk_new _ _
  have H2 := Lib.hid (And.intro (k1.then k2) (And.intro (k2.blk bp1 id) br2))
  obtain ⟨X, hX⟩ : ∃ X, L.getD i 0 = X := ⟨_, rfl⟩
  have hAT := rat_yes q most gone L o i W2 (HRF.out.1.up H2.out.1) (by rw [HLEN.out]; exact hi) hm
  rw [hX] at hAT
  have HAT := Lib.hid hAT
  clear hAT
  obtain ⟨x1, -⟩ := blk1 (H2.out.2.1)
  obtain ⟨-, ⟨x2, -⟩, -⟩ := blk3 (H2.out.1.blk HB2.out id)
  clear hR hF hb2 ho2 hs2 k1 bp1 k2 br2 hlen
  refine (callsIn_wide (n := 8)).1 (callsIn_of_wp_marks Try.func18 rfl trivial ?_ rfl)
  refine (wpIn_wide (n := 8)).2 ?_
  simp only [Try.ntmps18, List.size_toArray, List.length_cons, List.length_nil, Nat.reduceAdd, Nat.reduceSub, Array.replicate_succ, Array.replicate_zero, List.push_toArray, List.append_toArray, List.nil_append, List.cons_append]
  go_wp2_with fail
  refine HAT.out.mono ?_
  rintro e W3 ⟨rfl, k3⟩
  have H3 := Lib.hid (H2.out.1.then k3)
  have HR3 := Lib.hid (HRF.out.1.up H3.out)
  have bp3 := k3.blk H2.out.2.1 id
  have br3 := k3.blk H2.out.2.2 id
  have HP3 := Lib.hid (And.intro bp3 br3)
  obtain ⟨y1, -⟩ := blk1 bp3
  obtain ⟨⟨y0, -⟩, ⟨y2, -⟩, y3, -⟩ := blk3 (H3.out.blk HB2.out id)
  obtain ⟨WR, hWR⟩ : ∃ WR, WR = W3.drew := ⟨_, rfl⟩
  have kR : Kept (fun _ => False) W3 WR := by rw [hWR]; exact (Kept.refl _ _).drew
  obtain ⟨q1, -⟩ := blk1 (kR.blk bp3 id)
  obtain ⟨⟨q0, -⟩, ⟨q2, -⟩, q3, -⟩ := blk3 (kR.blk (H3.out.blk HB2.out id) id)
  have X1 := cell_regrown q1
  have X2 := cell_regrown q2
  have X3 := cell_regrown q3
  obtain ⟨b2, off2, rfl, hc2⟩ := HS2.out.2.resolve_left (by omega)
  have hk2 := kR.cell (H3.out.cell (hc2 i (by omega)) id) id
  rw [hX] at hk2
  clear hX
  have X4 := cell_regrown hk2
  clear hc2 hk2
  have HWR := Lib.hid hWR
  have HKR := Lib.hid kR
  obtain ⟨RL, hRL⟩ : ∃ R : Value → World → Prop, R = fun v _ => v = .int .i64 (len : Int) := ⟨_, rfl⟩
  obtain ⟨RG, hRG⟩ : ∃ R : Value → World → Prop, R = fun v _ => v = .int .i64 (gone : Int) := ⟨_, rfl⟩
  have HRL := Lib.hid hRL
  have HRG := Lib.hid hRG
  clear k3 bp3 br3 hWR kR q0 q1 q2 q3 hRL hRG x1 x2
  have g0 : decide ((i : Int) < (len : Int)) = true := decide_eq_true (by omega)
  have g0' : decide (i < len) = true := decide_eq_true (by omega)
  have l0 : i < len := hi
  have l0' : (i : Int) < (len : Int) := by omega
  go_wp2
  refine D.wp_region_grow' (Dt := ⟨1000, fun _ => false⟩) #[0, 0, 3, 7, 15, 31, 63, 63, 191, 447, 959, 63, 4031, 8127, 16383, 32767, 65535, 131071, 262143, 524287, 1048575, 2097151, 4194303, 8388607, 16777215, 33554431, 67108863, 134217727, 67108863, 335544319, 872415231, 1946157055, 4093640703, 8589934591, 17179869183, 34359738367, 68719476735, 137438953471, 68719476735, 343597383679, 893353197567, 1992864825343, 4398046511103, 8796093022207] 44 [] (fun i => if i = 27 then some RL else if i = 37 then some RG else none) (by kernel_rfl) rfl (by kernel_rfl) (fun i hi => by cases hi) (.inl rfl) ?_
  rintro _ rfl
  rw [← HWR.out]
  simp only [List.take_succ_cons, List.take_zero, List.drop_succ_cons, List.drop_zero, D.number, Nat.reduceAdd]
  repeat (refine D.wpGrow_step (fun K hK => ?_); go_simp; refine hK _ _ ?_; clear hK K)
  refine D.wpGrow_step (fun K hK => ?_)
  go_simp
  refine ⟨fun w' hg => (rlen q most gone L o w' ((HR3.out.up HKR.out).up hg.old.old)).mono (fun e w'' ⟨he, hw⟩ => ⟨_, he, by rw [hw]; exact D.KU.refl _ _ _ _, by rw [HRL.out, HLEN.out]⟩), fun v u hv => ?_⟩
  intros
  rw [HRL.out] at hv
  subst hv
  refine hK _ _ ?_; clear hK K
  repeat (refine D.wpGrow_step (fun K hK => ?_); go_simp; refine hK _ _ ?_; clear hK K)
  refine D.wpGrow_step (fun K hK => ?_)
  go_simp
  refine ⟨fun w' hg => (rgone q most gone L o w' ((HR3.out.up HKR.out).up hg.old.old)).mono (fun e w'' ⟨he, hw⟩ => ⟨_, he, by rw [hw]; exact D.KU.refl _ _ _ _, by rw [HRG.out]⟩), fun v u2 hv => ?_⟩
  intros
  rw [HRG.out] at hv
  subst hv
  refine hK _ _ ?_; clear hK K
  repeat (refine D.wpGrow_step (fun K hK => ?_); go_simp; refine hK _ _ ?_; clear hK K)
  refine D.wpGrow_nil ?_
  intro w4 hk4 hω
  have k4 := (HKR.out.then hk4.old)
  have H4 := Lib.hid (And.intro (H3.out.then k4) (And.intro (k4.blk HP3.out.1 id) (k4.blk HP3.out.2 id)))
  obtain ⟨kb, hkb⟩ : ∃ kb, w4.heap.size = kb := ⟨_, rfl⟩
  obtain ⟨W5, hW5⟩ : ∃ W, w4.alloc (.cells #[.int .i64 0] 3) = W := ⟨_, rfl⟩
  have k5 : Kept (fun _ => False) w4 W5 := by rw [← hW5]; exact (Kept.refl _ w4).alloc _
  have bk5 : W5.heap[kb]? = some (.cells #[.int .i64 0] 3 (0, 0)) := by rw [← hW5, ← hkb]; exact blk_new _ _
  have z5 : W5.heap.size = kb + 1 := by rw [← hW5, ← hkb]; simp
  have hpk : pb + 1 < kb := by have := lt_of_blk H4.out.2.2; omega
  obtain ⟨e5, e5'⟩ := blk1 bk5
  obtain ⟨W6, hW6⟩ : ∃ W, W5.setCell ⟨kb, 0, none⟩ (.int .i64 0) = W := ⟨_, rfl⟩
  have k6 : Kept (fun i => i = kb) W5 W6 := by rw [← hW6]; exact (Kept.refl (fun i => i = kb) W5).setCell (p := ⟨kb, 0, none⟩) (.inl rfl) _
  have bk6 := blk_set bk5 0 (.int .i64 0)
  rw [hW6] at bk6
  have hkw : w.heap.size ≤ kb := by rw [← hkb]; exact H4.out.1.size
  have z6 : kb < W6.heap.size := lt_of_blk bk6
  have H5 := Lib.hid (And.intro ((H4.out.1.then k5).trans (k6.mono fun i _ (hi : i = kb) => Or.inr (by rw [hi]; exact hkw))) (And.intro (k6.blk (k5.blk H4.out.2.1 id) (by omega)) (And.intro (k6.blk (k5.blk H4.out.2.2 id) (by omega)) (And.intro bk6 (And.intro z6 hpk)))))
  have HAL := Lib.hid (rall q most gone L o W6 (HRF.out.1.up H5.out.1) hm)
  clear hω hk4 k4 k5 bk5 z5 hpk k6 bk6 z6 hkw X1 X2 X3 y0 y1 y2 y3
  go_wp2_with fail
  refine HAL.out.mono ?_
  rintro e wA ⟨b, c, v, rfl, hbA, hcA, hoA, hkA, hbS, hcS, hvS⟩
  obtain ⟨a, cap, rfl, -, -, -, hga, -⟩ := hoA.shape
  have HA := Lib.hid (And.intro (H5.out.1.then hkA) (And.intro (hkA.blk H5.out.2.1 id) (And.intro (hkA.blk H5.out.2.2.1 id) (And.intro (hkA.blk H5.out.2.2.2.1 id) hkA))))
  have hsq : SeqStopsK Fence.wide (8 - 1) Try.prog 29 #[.pointer (some ⟨b, 0, none⟩), .pointer (some ⟨c, 0, none⟩)] enc2 (KpC W6.heap.size) (fun ys => ys = upto (nth gone L) L.length) (fun pre => ∃ k, k ≤ L.length ∧ pre = upto (nth gone L) k) L.length wA := by
    refine it_stops Fence.wide (8 - 1) trivial rfl (by omega) b c W6.heap.size gone L a cap (by rw [HLEN.out]; omega) hgo hbS hcS wA (by have h9 := (blk1 hbA).1; simpa [iv] using h9) (blk1 hcA).1 ?_
    by_cases h0 : L.length = 0
    · exact .inl h0
    · obtain ⟨g, rfl⟩ := hga (by simp [iv]; omega)
      refine .inr ⟨g, rfl, hvS (fun h => h0 (by rw [h]; rfl)) g rfl, fun j hj => ?_⟩
      rw [hoA.at.2.2.2.1 j (by simpa [iv] using hj)]
      simp [iv, hj]
  have HSQ := Lib.hid hsq
  clear hsq hbA hcA hoA hkA hbS hcS hvS hga
  go_wp2
  refine (wpIn_wide (n := 8)).1 ?_
  refine wpIn_rangeFunc_ownG rfl (by omega) (gf := 29) (lb := #[.pointer (some ⟨b, 0, none⟩), .pointer (some ⟨c, 0, none⟩)]) rfl trivial (enters_of Try.func29 (by kernel_rfl) rfl)
    HSQ.out (fun h k => h.trans k) (fun W l o o' hl h hc hw => KpC.put W l o o' hl h hc hw) (Below.refl _ _) (fun _ => rfl)
    (fun pre W => Kept (fun i => i = kb) wA W ∧ W.heap[kb]? = some (.cells #[.int .i64 pre.length] 3 (0, 0)) ∧ pre = upto (nth gone L) pre.length)
    (fun _ pre _ => ¬ ∃ k, k ≤ L.length ∧ pre = upto (nth gone L) k)
    (fun s A B row hs hg hr => ⟨hs.1.grownBy hg (fun r e => (hr r e).1), blk_grown hg (fun r e => (hr r e).2) hs.2.1, hs.2.2⟩)
    (fun _ _ _ _ _ hs _ _ => hs)
    ⟨Kept.refl _ _, HA.out.2.2.2.1, rfl⟩ ?a1 ?assign ?body ?done ?stop
  case assign =>
    intro l x W K hK
    gi_wp2
    exact hK
  case body =>
    rintro l pre ⟨x1, x2⟩ W ⟨hK, hkb, hpre⟩ hlen
    obtain ⟨k, hk⟩ : ∃ k, pre.length = k := ⟨_, rfl⟩
    rw [hk] at hkb hpre hlen
    have hklen : k < len := by rw [← HLEN.out]; exact hlen
    have hpk := H5.out.2.2.2.2.2
    have hwW : Kept (fun i => i = kb) w W := (HA.out.1.mono fun _ _ h => h.elim : Kept (fun i => i = kb) w wA).then hK
    obtain ⟨b1, -⟩ := blk1 (hK.blk HA.out.2.1 (by omega))
    obtain ⟨c1, c1'⟩ := blk1 (hK.blk HA.out.2.2.1 (by omega))
    obtain ⟨d1, d1'⟩ := blk1 hkb
    have hplt := lt_of_blk HB2.out
    obtain ⟨⟨f0, -⟩, ⟨f1, -⟩, f2, -⟩ := blk3 (hwW.blk HB2.out (by omega))
    obtain ⟨b9, off9, ha9, hc9⟩ := HS2.out.2.resolve_left (by omega)
    have hcw := hc9 k hklen
    have hcW := hwW.cell hcw (fun h => by have := lt_of_cell hcw; simp only at this h; omega)
    cases ha9
    obtain ⟨Y, hY⟩ : ∃ Y, L.getD k 0 = Y := ⟨_, rfl⟩
    rw [hY] at hcW
    obtain ⟨WD, hWD⟩ : ∃ WD, WD = W.drew := ⟨_, rfl⟩
    have kD : Kept (fun _ => False) W WD := by rw [hWD]; exact (Kept.refl _ _).drew
    have X1 := cell_regrown (kD.cell b1 id)
    have X2 := cell_regrown (kD.cell d1 id)
    have X3 := cell_regrown (kD.cell f1 id)
    have X4 := cell_regrown (kD.cell f2 id)
    have X5 := cell_regrown (kD.cell hcW id)
    have HWD := Lib.hid hWD
    have HKD := Lib.hid kD
    have HCR := Lib.hid (hK.blk HA.out.2.2.1 (by omega))
    have HY := Lib.hid (And.intro hY (And.intro hk (And.intro hK (And.intro hkb hpre))))
    have HL2 := Lib.hid (And.intro hlen hpk)
    have g1 : decide (len ≤ k) = false := decide_eq_false (by omega)
    have g1' : decide ((len : Int) ≤ (k : Int)) = false := decide_eq_false (by omega)
    have w1 : IntKind.i64.wrap ((gone : Int) + (k : Int)) = (gone : Int) + (k : Int) := IntWalk.i64_in _ (by omega)
    have w2 : IntKind.i64.wrap ((k : Int) + 1) = (k : Int) + 1 := IntWalk.i64_in _ (by omega)
    have l1 : k < len := hklen
    have l1' : (k : Int) < (len : Int) := by omega
    clear hcw hc9 hY hk hK hkb hpre hlen hwW hklen hWD kD b1 c1 c1' d1 d1' f0 f1 f2 hcW
    by_cases hx1 : x1 = (gone : Int) + (k : Int)
    · subst hx1
      by_cases hx2 : x2 = Y
      · subst hx2
        gi_wp2
        refine wpIn_round_grow (Dt := ⟨1000, fun _ => false⟩) #[0, 0, 2, 6, 14, 30, 63, 127, 255, 255, 767, 1791, 3839, 255, 16127, 32767, 65535, 131071, 262143, 262143, 786431, 1835007, 3932159, 262143, 16515071, 33292287, 67108863, 134217727] (fun _ => none) (by kernel_rfl) rfl (by kernel_rfl) (by kernel_rfl) (fun ⟨_, _, h⟩ => h) ?_
        rintro _ rfl
        rw [← HWD.out]
        simp only [D.number, Nat.reduceAdd]
        repeat (refine D.wpGrow_step (fun K hK => ?_); go_simp; refine hK _ _ ?_; clear hK K)
        refine D.wpGrow_nil ?_
        intro w9 hk9 _
        have K9 := Lib.hid (HKD.out.then hk9.old)
        have bk9 := K9.out.blk HY.out.2.2.2.1 id
        obtain ⟨d1, d1'⟩ := blk1 bk9
        obtain ⟨c1, c1'⟩ := blk1 (K9.out.blk HCR.out id)
        have HB9 := Lib.hid bk9
        clear hk9 bk9 X1 X2 X3 X4 X5
        gi_wp2
        refine ⟨(K9.out.others.trans (KeepsOthers.setCell _ _ _)).from _, (K9.out.kpC _).trans (KpC.setCell (by have := H5.out.2.2.2.2.1; omega) _), (HY.out.2.2.1.then (K9.out.mono fun _ _ h => h.elim)).setCell (p := ⟨kb, 0, none⟩) (.inl rfl) _, ?_, ?_⟩
        · have h9 := blk_set HB9.out 0 (.int .i64 ((k : Int) + 1))
          rw [List.length_append, List.length_singleton, HY.out.2.1]
          exact h9
        · have e : ((gone : Int) + (k : Int), x2) = nth gone L k := Prod.ext rfl (by show x2 = L[k]?.getD 0; rw [← HY.out.1]; exact List.getD_eq_getElem?_getD)
          rw [e, List.length_append, List.length_singleton, HY.out.2.1, upto_succ, ← HY.out.2.2.2.2]
      · have e2 : (x2 != Y) = true := by simp; exact hx2
        have HX2 := Lib.hid hx2
        clear hx2
        gi_wp2
        refine wpIn_round_grow (Dt := ⟨1000, fun _ => false⟩) #[0, 0, 2, 6, 14, 30, 63, 127, 255, 255, 767, 1791, 3839, 255, 16127, 32767, 65535, 131071, 262143, 262143, 786431, 1835007, 3932159, 262143, 16515071, 33292287, 67108863, 134217727] (fun _ => none) (by kernel_rfl) rfl (by kernel_rfl) (by kernel_rfl) (fun ⟨_, _, h⟩ => h) ?_
        rintro _ rfl
        rw [← HWD.out]
        simp only [D.number, Nat.reduceAdd]
        repeat (refine D.wpGrow_step (fun K hK => ?_); go_simp; refine hK _ _ ?_; clear hK K)
        refine D.wpGrow_nil ?_
        intro w9 hk9 _
        have K9 := Lib.hid (HKD.out.then hk9.old)
        have bk9 := K9.out.blk HY.out.2.2.2.1 id
        obtain ⟨d1, d1'⟩ := blk1 bk9
        obtain ⟨c1, c1'⟩ := blk1 (K9.out.blk HCR.out id)
        have HB9 := Lib.hid bk9
        clear hk9 bk9 X1 X2 X3 X4 X5
        gi_wp2
        exact ⟨(K9.out.others.trans (KeepsOthers.setCell _ _ _)).from _, fun k' hk' h9 => not_upto HY.out.2.2.2.2 (fun h => HX2.out (by have h9 : x2 = L[k]?.getD 0 := congrArg Prod.snd h; rw [h9, ← HY.out.1]; exact List.getD_eq_getElem?_getD.symm)) ⟨k', hk', h9⟩⟩
    · have e1 : (x1 != (gone : Int) + (k : Int)) = true := by simp; exact hx1
      have HX1 := Lib.hid hx1
      clear hx1
      gi_wp2
      refine wpIn_round_grow (Dt := ⟨1000, fun _ => false⟩) #[0, 0, 2, 6, 14, 30, 63, 127, 255, 255, 767, 1791, 3839, 255, 16127, 32767, 65535, 131071, 262143, 262143, 786431, 1835007, 3932159, 262143, 16515071, 33292287, 67108863, 134217727] (fun _ => none) (by kernel_rfl) rfl (by kernel_rfl) (by kernel_rfl) (fun ⟨_, _, h⟩ => h) ?_
      rintro _ rfl
      rw [← HWD.out]
      simp only [D.number, Nat.reduceAdd]
      iterate 17 (refine D.wpGrow_step (fun K hK => ?_); go_simp; refine hK _ _ ?_; clear hK K)
      clear e1
      refine D.wpGrow_step (fun K hK => ?_)
      go_simp
      iterate 10 (generalize hfr : Act.mk _ _ = fr; refine hK _ _ ?_; clear hK K; refine D.wpGrow_step (fun K hK => ?_); subst hfr; go_simp)
      generalize hfr : Act.mk _ _ = fr
      refine hK _ _ ?_
      clear hK K
      refine D.wpGrow_nil ?_
      subst hfr
      intro w9 hk9 _
      have K9 := Lib.hid (HKD.out.then hk9.old)
      have bk9 := K9.out.blk HY.out.2.2.2.1 id
      obtain ⟨d1, d1'⟩ := blk1 bk9
      obtain ⟨c1, c1'⟩ := blk1 (K9.out.blk HCR.out id)
      have HB9 := Lib.hid bk9
      clear hk9 bk9 X1 X2 X3 X4 X5
      gi_wp2
      exact ⟨(K9.out.others.trans (KeepsOthers.setCell _ _ _)).from _, fun k' hk' h9 => not_upto HY.out.2.2.2.2 (fun h => HX1.out (congrArg Prod.fst h)) ⟨k', hk', h9⟩⟩
  case done =>
    rintro Dd ys W hD rfl ⟨hK, hkb, -⟩ hKd
    have hpk := H5.out.2.2.2.2.2
    have hwW : Kept (fun i => i = kb) w W := (HA.out.1.mono fun _ _ h => h.elim : Kept (fun i => i = kb) w wA).then hK
    rw [upto_length, HLEN.out] at hkb
    obtain ⟨WD, hWD⟩ : ∃ WD, W.drew = WD := ⟨_, rfl⟩
    have kD : Kept (fun _ => False) W WD := by rw [← hWD]; exact (Kept.refl _ _).drew
    obtain ⟨b1, -⟩ := blk1 (kD.blk (hK.blk HA.out.2.1 (by omega)) id)
    have brD := kD.blk (hK.blk HA.out.2.2.1 (by omega)) id
    obtain ⟨c1, c1'⟩ := blk1 brD
    obtain ⟨d1, d1'⟩ := blk1 (kD.blk hkb id)
    have hplt := lt_of_blk HB2.out
    obtain ⟨⟨f0, -⟩, ⟨f1, -⟩, f2, -⟩ := blk3 (kD.blk (hwW.blk HB2.out (by omega)) id)
    obtain ⟨V, hV⟩ : ∃ V, WD.setCell ⟨pb + 1, 0, none⟩ (.bool true) = V := ⟨_, rfl⟩
    have brV := blk_set brD 0 (.bool true)
    rw [hV] at brV
    have kV : Kept (fun i => i = pb + 1) WD V := by rw [← hV]; exact (Kept.refl (fun i => i = pb + 1) WD).setCell (p := ⟨pb + 1, 0, none⟩) (.inl rfl) _
    have hKV : V.heap[Dd]? = some (.deferred (some [])) := kV.blk (kD.blk hKd id) (fun (h : Dd = pb + 1) => by have h9 := kD.blk hKd id; rw [h, brD] at h9; cases h9)
    have hkw : w.heap.size ≤ kb := by omega
    have hwW0 : Kept (fun _ => False) w W := hwW.mono (fun i hi (h : i = kb) => by omega)
    have hwV : Kept (fun _ => False) w V := (hwW0.then kD).trans (kV.mono fun i _ (hi : i = pb + 1) => Or.inr (by omega))
    have hDw : w.heap.size ≤ Dd := Nat.le_trans HA.out.1.size hD
    have HF := Lib.hid (And.intro (blk1 brV).1 (And.intro hKV (And.intro hwV hDw)))
    clear brV hKV hwV hwW0 kV brD hplt hK hkb hKd hwW kD hDw hkw hD
    go_wp2
    go_still_tail 7, (by kernel_rfl)
    change wpList _ _ _ _ _ W.drew
    rw [hWD]
    go_wp2
    have hc5 := cell_kept HF.out.1 (grownBy_putObj' V Dd (.deferred none)) (fun r e => by cases e; exact ⟨_, HF.out.2.1, rfl⟩)
    refine ⟨by simp, .inl ⟨_, _, rfl, run_takeDeferred HF.out.2.1, ?_⟩⟩
    refine ⟨.bool true, ?_, rfl, HF.out.2.2.1.grown (grownBy_putObj' V Dd _) (fun k e => by cases e; exact .inr HF.out.2.2.2)⟩
    simp [results, Try.f18, go_sem, hc5]
  case stop =>
    rintro D c pre W _ hS hx _
    exact absurd hS hx
end Go.Proofs.Ytdfenlonlpjkfaa
