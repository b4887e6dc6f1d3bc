/- The document's End. -/
import Derived.Test.YtomcjdonacckfaaAppE
import Derived.Test.YtomcjdonacckfaaSixelR
import Derived.Test.YtomcjdonacckfaaWriteR
namespace Go.Proofs.Ytomcjdonacckfaa.R
open Go.Proofs.Ytomcjdonacckfaa Go.RowKit
set_option linter.unusedVariables false
set_option linter.unusedSimpArgs false
attribute [local go_sem] growOp growUpon sameUpon
/-- What a call of End leaves. -/
def Ends (G : Nat → Prop) (W w' : World) (a : Nat) (E : Ended) (e : Ending) : Prop :=
  ∃ v G', e = .returned (.tuple #[.agg #[.int .i64 E.w, .int .i64 E.h, v], .int .i64 E.e]) ∧ Own .u8 5 w' v E.p ∧ DOwn G' w' a E.d ∧ (∀ i, G' i → G i ∨ W.heap.size ≤ i) ∧ Kept G W w' ∧ ∀ b, v.ownBlock = some b → W.heap.size ≤ b ∧ ¬ G' b
/-- The state while clear pixels are filled. -/
def Est (U : World) (a g PL pc q9 : Nat) (d : Dec) (pv nv : Value) (C : Array Value) (w : World) (L : List Int) : Prop :=
  Own .u8 5 w (.slice (some ⟨g, 0, none⟩) PL pc) L ∧ DBlk w a d pv nv ∧ w.heap[q9]? = some (.cells C 61 (0, 0)) ∧ Kept (fun i => i = g) U w ∧ g ≠ a ∧ g ≠ q9
theorem Est.drew {U : World} {a g PL pc q9 : Nat} {d : Dec} {pv nv : Value} {C : Array Value} {w : World} {L : List Int} (h : Est U a g PL pc q9 d pv nv C w L) : Est U a g PL pc q9 d pv nv C w.drew L := by
  obtain ⟨h2, h3, h4, h5, h6, h7⟩ := h
  have hk := (Kept.refl (fun _ => False) w).drew
  exact ⟨h2.kept hk (fun _ _ => id), h3.kept hk id, hk.blk h4 id, h5.drew, h6, h7⟩
theorem Est.set {U : World} {a g PL pc q9 : Nat} {d : Dec} {pv nv : Value} {C : Array Value} {w : World} {L : List Int} (h : Est U a g PL pc q9 d pv nv C w L) {i : Nat} (hi : i < PL) (v : Int) : Est U a g PL pc q9 d pv nv C (w.setCell ⟨g, i, none⟩ (.int .u8 v)) (L.set i v) := by
  obtain ⟨h2, h3, h4, h5, h6, h7⟩ := h
  have hk : Kept (fun j => j = g) w (w.setCell ⟨g, i, none⟩ (.int .u8 v)) := (Kept.refl (fun j => j = g) w).setCell (p := ⟨g, i, none⟩) (.inl rfl) _
  exact ⟨h2.set hi v, h3.kept hk (fun h => h6 h.symm), hk.blk h4 (fun h => h7 h.symm), h5.then hk, h6, h7⟩
set_option maxRecDepth 100000 in
set_option maxHeartbeats 16000000 in
theorem end_any (G : Nat → Prop) (d : Dec) (W : World) (a M : Nat) (hd : DOwn G W a d) (hok : DecOk M d) :
    Calls Try.prog 28 #[.pointer (some ⟨a, 0, none⟩)] W fun e w' => Ends G W w' a d.fin e := by
  obtain ⟨q, hqe⟩ : ∃ q, W.heap.size = q := ⟨_, rfl⟩
  obtain ⟨Wa, hWa⟩ : ∃ Wa, W.alloc (.cells #[.int .i64 0, .int .i64 0, .slice none 0 0] 61) = Wa := ⟨_, rfl⟩
  have hka : Kept (fun _ => False) W Wa := by rw [← hWa]; exact (Kept.refl _ _).alloc _
  have hqn : ¬ G q := fun h => by have := hd.lt q h; omega
  have HE0 := Lib.hid (show ∃ G1, DOwn G1 Wa a d ∧ (∀ i, G1 i → G i ∨ W.heap.size ≤ i) ∧ Kept G W Wa ∧ ¬ G1 q ∧ Wa.heap[q]? = some (.cells #[.int .i64 0, .int .i64 0, .slice none 0 0] 61 (0, 0)) ∧ W.heap.size ≤ q from
    ⟨G, hd.kept hka (fun _ _ => id), fun _ h => .inl h, hka.mono fun _ _ h => h.elim, hqn, by rw [← hWa]; exact blk_at W _ hqe.symm, by omega⟩)
  have hsz : Wa.heap.size = q + 1 := by rw [← hWa, ← hqe]; simp
  have hda : DOwn G Wa a d := hd.kept hka (fun _ _ => id)
  obtain ⟨pv, nv, hb, -⟩ := hda
  obtain ⟨fu, hfu⟩ : ∃ b, d.full = b := ⟨_, rfl⟩
  obtain ⟨ov, hov⟩ : ∃ b, d.over = b := ⟨_, rfl⟩
  have jf : Wa.cell? ⟨a, 778, none⟩ = some (.bool fu) := by rw [← hfu]; exact hb.ffull.1
  have jo : Wa.cell? ⟨a, 779, none⟩ = some (.bool ov) := by rw [← hov]; exact hb.fover.1
  have HF := Lib.hid (And.intro hfu hov)
  have HD := Lib.hid (And.intro hd (And.intro hok (And.intro hka (And.intro hqn hsz))))
  clear hd hok hka hqn hb hfu hov hsz
  obtain ⟨w0, hw0⟩ : ∃ w0, d.w = w0 := ⟨_, rfl⟩
  have HW0 := Lib.hid hw0
  clear hw0
  cases fu with
  | true =>
    have HFIN := Lib.hid (show d.fin1 = d from by unfold Dec.fin1; rw [HF.out.1]; simp)
    have HF1 := Lib.hid HF.out.1
    clear jf jo
    go_enter Try.func28, Try.ntmps28
    have HE := HE0
    have hE := HE.out
    obtain ⟨G1, hDO, hs1, hkq, hnq, hqb, hWq⟩ := hE
    have hDO2 := hDO
    obtain ⟨pv1, nv1, hb1, -⟩ := hDO2
    have jf : Wa.cell? ⟨a, 778, none⟩ = some (.bool true) := by rw [← HF1.out]; exact hb1.ffull.1
    have jo : Wa.cell? ⟨a, 779, none⟩ = some (.bool d.over) := hb1.fover.1
    obtain ⟨V1, V2, V3, f1, f2, f3, ⟨e1, e1'⟩, ⟨e2, e2'⟩, ⟨e3, e3'⟩, hcV, hkV⟩ := store3 hqb (.int .i64 0) (.int .i64 0) (.slice none 0 0)
    obtain ⟨⟨z0, -⟩, ⟨z1, -⟩, z2, -⟩ := blk3 hcV
    have HEND := Lib.hid (show Ends G W V3 a d.fin (.returned (.tuple #[.agg #[.int .i64 0, .int .i64 0, .slice none 0 0], .int .i64 6])) from by
      rw [fin_full HFIN.out HF1.out]
      exact ⟨_, G1, rfl, Own.nil _ _ _, hDO.kept hkV (fun i hi (h : i = q) => hnq (h ▸ hi)), hs1, hkq.trans (hkV.mono fun i _ (h : i = q) => Or.inr (by omega)), fun b hb => by cases hb⟩)
    clear hDO hs1 hkq hnq hqb hWq hb1 hcV hkV
    go_wp2
    refine bodyPost_ret (v := .tuple #[.agg #[.int .i64 0, .int .i64 0, .slice none 0 0], .int .i64 6]) (by simp [results, Try.results28, go_sem, z0, z1, z2]) rfl ?_
    exact HEND.out
  | false =>
    cases ov with
    | true =>
      have HFIN := Lib.hid (show d.fin1 = d from by unfold Dec.fin1; rw [HF.out.2]; simp)
      have HF1 := Lib.hid HF.out.1
      have HO1 := Lib.hid HF.out.2
      clear jf jo
      go_enter Try.func28, Try.ntmps28
      cases hz : (w0 == (0 : Int)) with
      | true =>
        have HE := HE0
        obtain ⟨w1, rfl⟩ : ∃ w1, w1 = w0 := ⟨_, rfl⟩
        have HW1 := HW0
        have hE := HE.out
        obtain ⟨G1, hDO, hs1, hkq, hnq, hqb, hWq⟩ := hE
        have hDO2 := hDO
        obtain ⟨pv1, nv1, hb1, -, -, -, -, -, hG1⟩ := hDO2
        have jf : Wa.cell? ⟨a, 778, none⟩ = some (.bool false) := by rw [← HF1.out]; exact hb1.ffull.1
        have jo : Wa.cell? ⟨a, 779, none⟩ = some (.bool true) := by rw [← HO1.out]; exact hb1.fover.1
        have jo' := hb1.fover.2
        obtain ⟨V0, hV0⟩ : ∃ V, Wa.setCell ⟨a, 779, none⟩ (.bool true) = V := ⟨_, rfl⟩
        have hqa : q ≠ a := fun h => hnq (h ▸ (hG1 a).2 (.inl rfl))
        have hD0 : DOwn G1 V0 a { d with over := true } := by rw [← hV0]; exact hDO.set (fun _ _ h => h.sover true) rfl rfl
        have hk0 : Kept (fun i => i = a) Wa V0 := by rw [← hV0]; exact (Kept.refl (fun i => i = a) Wa).setCell (p := ⟨a, 779, none⟩) (.inl rfl) _
        have hq0 : V0.heap[q]? = _ := hk0.blk hqb hqa
        have hb0 : DBlk V0 a { d with over := true } pv1 nv1 := by rw [← hV0]; exact hb1.sover true
        have jw : V0.cell? ⟨a, 773, none⟩ = some (.int .i64 w1) := by rw [← HW1.out]; exact hb0.fw.1
        obtain ⟨V1, V2, V3, f1, f2, f3, ⟨e1, e1'⟩, ⟨e2, e2'⟩, ⟨e3, e3'⟩, hcV, hkV⟩ := store3 hq0 (.int .i64 0) (.int .i64 0) (.slice none 0 0)
        obtain ⟨⟨z0, -⟩, ⟨z1, -⟩, z2, -⟩ := blk3 hcV
        have HEND := Lib.hid (show Ends G W V3 a d.fin (.returned (.tuple #[.agg #[.int .i64 0, .int .i64 0, .slice none 0 0], .int .i64 7])) from by
          rw [fin_none HFIN.out HF1.out (.inr HO1.out)]
          refine ⟨_, G1, rfl, Own.nil _ _ _, hD0.kept hkV (fun i hi (h : i = q) => hnq (h ▸ hi)), hs1, ?_, fun b hb => by cases hb⟩
          have hGa : G1 a := (hG1 a).2 (.inl rfl)
          exact (hkq.trans (hk0.mono fun i _ (h : i = a) => by rcases hs1 a hGa with h9 | h9; exact Or.inl (h ▸ h9); exact Or.inr (h ▸ h9))).trans (hkV.mono fun i _ (h : i = q) => Or.inr (by omega)))
        clear hDO hs1 hkq hnq hqb hWq hb1 hcV hkV hD0 hk0 hq0 hb0 hG1
        go_wp2
        refine bodyPost_ret (v := .tuple #[.agg #[.int .i64 0, .int .i64 0, .slice none 0 0], .int .i64 7]) (by simp [results, Try.results28, go_sem, z0, z1, z2]) rfl ?_
        exact HEND.out
      | false =>
        have HE := HE0
        obtain ⟨w1, rfl⟩ : ∃ w1, w1 = w0 := ⟨_, rfl⟩
        have HW1 := HW0
        have hE := HE.out
        obtain ⟨G1, hDO, hs1, hkq, hnq, hqb, hWq⟩ := hE
        have hDO2 := hDO
        obtain ⟨pv1, nv1, hb1, -, -, -, -, -, hG1⟩ := hDO2
        have jf : Wa.cell? ⟨a, 778, none⟩ = some (.bool false) := by rw [← HF1.out]; exact hb1.ffull.1
        have jo : Wa.cell? ⟨a, 779, none⟩ = some (.bool true) := by rw [← HO1.out]; exact hb1.fover.1
        have jo' := hb1.fover.2
        obtain ⟨V0, hV0⟩ : ∃ V, Wa.setCell ⟨a, 779, none⟩ (.bool true) = V := ⟨_, rfl⟩
        have hqa : q ≠ a := fun h => hnq (h ▸ (hG1 a).2 (.inl rfl))
        have hD0 : DOwn G1 V0 a { d with over := true } := by rw [← hV0]; exact hDO.set (fun _ _ h => h.sover true) rfl rfl
        have hk0 : Kept (fun i => i = a) Wa V0 := by rw [← hV0]; exact (Kept.refl (fun i => i = a) Wa).setCell (p := ⟨a, 779, none⟩) (.inl rfl) _
        have hq0 : V0.heap[q]? = _ := hk0.blk hqb hqa
        have hb0 : DBlk V0 a { d with over := true } pv1 nv1 := by rw [← hV0]; exact hb1.sover true
        have jw : V0.cell? ⟨a, 773, none⟩ = some (.int .i64 w1) := by rw [← HW1.out]; exact hb0.fw.1
        obtain ⟨V1, V2, V3, f1, f2, f3, ⟨e1, e1'⟩, ⟨e2, e2'⟩, ⟨e3, e3'⟩, hcV, hkV⟩ := store3 hq0 (.int .i64 0) (.int .i64 0) (.slice none 0 0)
        obtain ⟨⟨z0, -⟩, ⟨z1, -⟩, z2, -⟩ := blk3 hcV
        have HEND := Lib.hid (show Ends G W V3 a d.fin (.returned (.tuple #[.agg #[.int .i64 0, .int .i64 0, .slice none 0 0], .int .i64 7])) from by
          rw [fin_none HFIN.out HF1.out (.inr HO1.out)]
          refine ⟨_, G1, rfl, Own.nil _ _ _, hD0.kept hkV (fun i hi (h : i = q) => hnq (h ▸ hi)), hs1, ?_, fun b hb => by cases hb⟩
          have hGa : G1 a := (hG1 a).2 (.inl rfl)
          exact (hkq.trans (hk0.mono fun i _ (h : i = a) => by rcases hs1 a hGa with h9 | h9; exact Or.inl (h ▸ h9); exact Or.inr (h ▸ h9))).trans (hkV.mono fun i _ (h : i = q) => Or.inr (by omega)))
        clear hDO hs1 hkq hnq hqb hWq hb1 hcV hkV hD0 hk0 hq0 hb0 hG1
        go_wp2
        refine bodyPost_ret (v := .tuple #[.agg #[.int .i64 0, .int .i64 0, .slice none 0 0], .int .i64 7]) (by simp [results, Try.results28, go_sem, z0, z1, z2]) rfl ?_
        exact HEND.out
    | false =>
      have HFIN := Lib.hid (show d.fin1 = d.done d.w.toNat d.h.toNat from by unfold Dec.fin1; rw [HF.out.1, HF.out.2]; simp)
      have HT := Lib.hid (done_any G d Wa a d.w.toNat d.h.toNat M (HD.out.1.kept HD.out.2.2.1 (fun _ _ => id)) HD.out.2.1.pic HF.out.1 HD.out.2.1.num HD.out.2.1.cmd)
      have HOK := Lib.hid (done_ok HD.out.2.1 HF.out.1)
      obtain ⟨D1, hD1⟩ : ∃ D, d.done d.w.toNat d.h.toNat = D := ⟨_, rfl⟩
      rw [hD1] at HFIN HT HOK
      clear hD1
      obtain ⟨fu1, hfu1⟩ : ∃ b, D1.full = b := ⟨_, rfl⟩
      obtain ⟨ov1, hov1⟩ : ∃ b, D1.over = b := ⟨_, rfl⟩
      obtain ⟨w1, hw1⟩ : ∃ b, D1.w = b := ⟨_, rfl⟩
      have HW1 := Lib.hid hw1
      have HF1 := Lib.hid hfu1
      have HO1 := Lib.hid hov1
      clear hw1 hfu1 hov1
      go_enter Try.func28, Try.ntmps28
      go_wp2_with fail
      refine HT.out.mono ?_
      rintro e wr ⟨rfl, G1, hDO, hs1, hk1⟩
      have HE := Lib.hid (show ∃ G1, DOwn G1 wr a D1 ∧ (∀ i, G1 i → G i ∨ W.heap.size ≤ i) ∧ Kept G W wr ∧ ¬ G1 q ∧ wr.heap[q]? = some (.cells #[.int .i64 0, .int .i64 0, .slice none 0 0] 61 (0, 0)) ∧ W.heap.size ≤ q from by
        have hsz := HD.out.2.2.2.2
        refine ⟨G1, hDO, fun i hi => ?_, (HD.out.2.2.1.mono fun _ _ h => h.elim).then hk1, fun h => ?_, hk1.blk (by rw [← hWa]; exact blk_at W _ hqe.symm) HD.out.2.2.2.1, by omega⟩
        · rcases hs1 i hi with h | h
          · exact .inl h
          · right; omega
        · rcases hs1 q h with h | h
          · exact HD.out.2.2.2.1 h
          · omega)
      clear hDO hs1 hk1
      cases fu1 with
      | true =>
        have hE := HE.out
        obtain ⟨G1, hDO, hs1, hkq, hnq, hqb, hWq⟩ := hE
        have hDO2 := hDO
        obtain ⟨pv1, nv1, hb1, -⟩ := hDO2
        have jf : wr.cell? ⟨a, 778, none⟩ = some (.bool true) := by rw [← HF1.out]; exact hb1.ffull.1
        have jo : wr.cell? ⟨a, 779, none⟩ = some (.bool D1.over) := hb1.fover.1
        obtain ⟨V1, V2, V3, f1, f2, f3, ⟨e1, e1'⟩, ⟨e2, e2'⟩, ⟨e3, e3'⟩, hcV, hkV⟩ := store3 hqb (.int .i64 0) (.int .i64 0) (.slice none 0 0)
        obtain ⟨⟨z0, -⟩, ⟨z1, -⟩, z2, -⟩ := blk3 hcV
        have HEND := Lib.hid (show Ends G W V3 a d.fin (.returned (.tuple #[.agg #[.int .i64 0, .int .i64 0, .slice none 0 0], .int .i64 6])) from by
          rw [fin_full HFIN.out HF1.out]
          exact ⟨_, G1, rfl, Own.nil _ _ _, hDO.kept hkV (fun i hi (h : i = q) => hnq (h ▸ hi)), hs1, hkq.trans (hkV.mono fun i _ (h : i = q) => Or.inr (by omega)), fun b hb => by cases hb⟩)
        clear hDO hs1 hkq hnq hqb hWq hb1 hcV hkV
        go_wp2
        refine bodyPost_ret (v := .tuple #[.agg #[.int .i64 0, .int .i64 0, .slice none 0 0], .int .i64 6]) (by simp [results, Try.results28, go_sem, z0, z1, z2]) rfl ?_
        exact HEND.out
      | false =>
        cases ov1 with
        | true =>
          cases hz : (w1 == (0 : Int)) with
          | true =>
            have hE := HE.out
            obtain ⟨G1, hDO, hs1, hkq, hnq, hqb, hWq⟩ := hE
            have hDO2 := hDO
            obtain ⟨pv1, nv1, hb1, -, -, -, -, -, hG1⟩ := hDO2
            have jf : wr.cell? ⟨a, 778, none⟩ = some (.bool false) := by rw [← HF1.out]; exact hb1.ffull.1
            have jo : wr.cell? ⟨a, 779, none⟩ = some (.bool true) := by rw [← HO1.out]; exact hb1.fover.1
            have jo' := hb1.fover.2
            obtain ⟨V0, hV0⟩ : ∃ V, wr.setCell ⟨a, 779, none⟩ (.bool true) = V := ⟨_, rfl⟩
            have hqa : q ≠ a := fun h => hnq (h ▸ (hG1 a).2 (.inl rfl))
            have hD0 : DOwn G1 V0 a { D1 with over := true } := by rw [← hV0]; exact hDO.set (fun _ _ h => h.sover true) rfl rfl
            have hk0 : Kept (fun i => i = a) wr V0 := by rw [← hV0]; exact (Kept.refl (fun i => i = a) wr).setCell (p := ⟨a, 779, none⟩) (.inl rfl) _
            have hq0 : V0.heap[q]? = _ := hk0.blk hqb hqa
            have hb0 : DBlk V0 a { D1 with over := true } pv1 nv1 := by rw [← hV0]; exact hb1.sover true
            have jw : V0.cell? ⟨a, 773, none⟩ = some (.int .i64 w1) := by rw [← HW1.out]; exact hb0.fw.1
            obtain ⟨V1, V2, V3, f1, f2, f3, ⟨e1, e1'⟩, ⟨e2, e2'⟩, ⟨e3, e3'⟩, hcV, hkV⟩ := store3 hq0 (.int .i64 0) (.int .i64 0) (.slice none 0 0)
            obtain ⟨⟨z0, -⟩, ⟨z1, -⟩, z2, -⟩ := blk3 hcV
            have HEND := Lib.hid (show Ends G W V3 a d.fin (.returned (.tuple #[.agg #[.int .i64 0, .int .i64 0, .slice none 0 0], .int .i64 7])) from by
              rw [fin_none HFIN.out HF1.out (.inr HO1.out)]
              refine ⟨_, G1, rfl, Own.nil _ _ _, hD0.kept hkV (fun i hi (h : i = q) => hnq (h ▸ hi)), hs1, ?_, fun b hb => by cases hb⟩
              have hGa : G1 a := (hG1 a).2 (.inl rfl)
              exact (hkq.trans (hk0.mono fun i _ (h : i = a) => by rcases hs1 a hGa with h9 | h9; exact Or.inl (h ▸ h9); exact Or.inr (h ▸ h9))).trans (hkV.mono fun i _ (h : i = q) => Or.inr (by omega)))
            clear hDO hs1 hkq hnq hqb hWq hb1 hcV hkV hD0 hk0 hq0 hb0 hG1
            go_wp2
            refine bodyPost_ret (v := .tuple #[.agg #[.int .i64 0, .int .i64 0, .slice none 0 0], .int .i64 7]) (by simp [results, Try.results28, go_sem, z0, z1, z2]) rfl ?_
            exact HEND.out
          | false =>
            have hE := HE.out
            obtain ⟨G1, hDO, hs1, hkq, hnq, hqb, hWq⟩ := hE
            have hDO2 := hDO
            obtain ⟨pv1, nv1, hb1, -, -, -, -, -, hG1⟩ := hDO2
            have jf : wr.cell? ⟨a, 778, none⟩ = some (.bool false) := by rw [← HF1.out]; exact hb1.ffull.1
            have jo : wr.cell? ⟨a, 779, none⟩ = some (.bool true) := by rw [← HO1.out]; exact hb1.fover.1
            have jo' := hb1.fover.2
            obtain ⟨V0, hV0⟩ : ∃ V, wr.setCell ⟨a, 779, none⟩ (.bool true) = V := ⟨_, rfl⟩
            have hqa : q ≠ a := fun h => hnq (h ▸ (hG1 a).2 (.inl rfl))
            have hD0 : DOwn G1 V0 a { D1 with over := true } := by rw [← hV0]; exact hDO.set (fun _ _ h => h.sover true) rfl rfl
            have hk0 : Kept (fun i => i = a) wr V0 := by rw [← hV0]; exact (Kept.refl (fun i => i = a) wr).setCell (p := ⟨a, 779, none⟩) (.inl rfl) _
            have hq0 : V0.heap[q]? = _ := hk0.blk hqb hqa
            have hb0 : DBlk V0 a { D1 with over := true } pv1 nv1 := by rw [← hV0]; exact hb1.sover true
            have jw : V0.cell? ⟨a, 773, none⟩ = some (.int .i64 w1) := by rw [← HW1.out]; exact hb0.fw.1
            obtain ⟨V1, V2, V3, f1, f2, f3, ⟨e1, e1'⟩, ⟨e2, e2'⟩, ⟨e3, e3'⟩, hcV, hkV⟩ := store3 hq0 (.int .i64 0) (.int .i64 0) (.slice none 0 0)
            obtain ⟨⟨z0, -⟩, ⟨z1, -⟩, z2, -⟩ := blk3 hcV
            have HEND := Lib.hid (show Ends G W V3 a d.fin (.returned (.tuple #[.agg #[.int .i64 0, .int .i64 0, .slice none 0 0], .int .i64 7])) from by
              rw [fin_none HFIN.out HF1.out (.inr HO1.out)]
              refine ⟨_, G1, rfl, Own.nil _ _ _, hD0.kept hkV (fun i hi (h : i = q) => hnq (h ▸ hi)), hs1, ?_, fun b hb => by cases hb⟩
              have hGa : G1 a := (hG1 a).2 (.inl rfl)
              exact (hkq.trans (hk0.mono fun i _ (h : i = a) => by rcases hs1 a hGa with h9 | h9; exact Or.inl (h ▸ h9); exact Or.inr (h ▸ h9))).trans (hkV.mono fun i _ (h : i = q) => Or.inr (by omega)))
            clear hDO hs1 hkq hnq hqb hWq hb1 hcV hkV hD0 hk0 hq0 hb0 hG1
            go_wp2
            refine bodyPost_ret (v := .tuple #[.agg #[.int .i64 0, .int .i64 0, .slice none 0 0], .int .i64 7]) (by simp [results, Try.results28, go_sem, z0, z1, z2]) rfl ?_
            exact HEND.out
        | false =>
          cases hz : (w1 == (0 : Int)) with
          | true =>
            have hE := HE.out
            obtain ⟨G1, hDO, hs1, hkq, hnq, hqb, hWq⟩ := hE
            have hDO2 := hDO
            obtain ⟨pv1, nv1, hb1, -, -, -, -, -, hG1⟩ := hDO2
            have jf : wr.cell? ⟨a, 778, none⟩ = some (.bool false) := by rw [← HF1.out]; exact hb1.ffull.1
            have jo : wr.cell? ⟨a, 779, none⟩ = some (.bool false) := by rw [← HO1.out]; exact hb1.fover.1
            have jo' := hb1.fover.2
            obtain ⟨V0, hV0⟩ : ∃ V, wr.setCell ⟨a, 779, none⟩ (.bool true) = V := ⟨_, rfl⟩
            have hqa : q ≠ a := fun h => hnq (h ▸ (hG1 a).2 (.inl rfl))
            have hD0 : DOwn G1 V0 a { D1 with over := true } := by rw [← hV0]; exact hDO.set (fun _ _ h => h.sover true) rfl rfl
            have hk0 : Kept (fun i => i = a) wr V0 := by rw [← hV0]; exact (Kept.refl (fun i => i = a) wr).setCell (p := ⟨a, 779, none⟩) (.inl rfl) _
            have hq0 : V0.heap[q]? = _ := hk0.blk hqb hqa
            have hb0 : DBlk V0 a { D1 with over := true } pv1 nv1 := by rw [← hV0]; exact hb1.sover true
            have jw : V0.cell? ⟨a, 773, none⟩ = some (.int .i64 w1) := by rw [← HW1.out]; exact hb0.fw.1
            obtain ⟨V1, V2, V3, f1, f2, f3, ⟨e1, e1'⟩, ⟨e2, e2'⟩, ⟨e3, e3'⟩, hcV, hkV⟩ := store3 hq0 (.int .i64 0) (.int .i64 0) (.slice none 0 0)
            obtain ⟨⟨z0, -⟩, ⟨z1, -⟩, z2, -⟩ := blk3 hcV
            have HEND := Lib.hid (show Ends G W V3 a d.fin (.returned (.tuple #[.agg #[.int .i64 0, .int .i64 0, .slice none 0 0], .int .i64 7])) from by
              rw [fin_none HFIN.out HF1.out (.inl (by rw [HW1.out]; simpa using hz))]
              refine ⟨_, G1, rfl, Own.nil _ _ _, hD0.kept hkV (fun i hi (h : i = q) => hnq (h ▸ hi)), hs1, ?_, fun b hb => by cases hb⟩
              have hGa : G1 a := (hG1 a).2 (.inl rfl)
              exact (hkq.trans (hk0.mono fun i _ (h : i = a) => by rcases hs1 a hGa with h9 | h9; exact Or.inl (h ▸ h9); exact Or.inr (h ▸ h9))).trans (hkV.mono fun i _ (h : i = q) => Or.inr (by omega)))
            clear hDO hs1 hkq hnq hqb hWq hb1 hcV hkV hD0 hk0 hq0 hb0 hG1
            go_wp2
            refine bodyPost_ret (v := .tuple #[.agg #[.int .i64 0, .int .i64 0, .slice none 0 0], .int .i64 7]) (by simp [results, Try.results28, go_sem, z0, z1, z2]) rfl ?_
            exact HEND.out
          | false =>
            have hE := HE.out
            obtain ⟨G1, hDO, hs1, hkq, hnq, hqb, hWq⟩ := hE
            have hDO2 := hDO
            obtain ⟨pv1, nv1, hb1, hp1, hn1, o1, o2, o3, hG1⟩ := hDO2
            have jf : wr.cell? ⟨a, 778, none⟩ = some (.bool false) := by rw [← HF1.out]; exact hb1.ffull.1
            have jo : wr.cell? ⟨a, 779, none⟩ = some (.bool false) := by rw [← HO1.out]; exact hb1.fover.1
            have jo' := hb1.fover.2
            obtain ⟨V0, hV0⟩ : ∃ V, wr.setCell ⟨a, 779, none⟩ (.bool true) = V := ⟨_, rfl⟩
            have hqa : q ≠ a := fun h => hnq (h ▸ (hG1 a).2 (.inl rfl))
            have hD0 : DOwn G1 V0 a { D1 with over := true } := by rw [← hV0]; exact hDO.set (fun _ _ h => h.sover true) rfl rfl
            have hk0 : Kept (fun i => i = a) wr V0 := by rw [← hV0]; exact (Kept.refl (fun i => i = a) wr).setCell (p := ⟨a, 779, none⟩) (.inl rfl) _
            have hq0 : V0.heap[q]? = _ := hk0.blk hqb hqa
            have hGa : G1 a := (hG1 a).2 (.inl rfl)
            have hk0W : Kept G W V0 := hkq.trans (hk0.mono fun i _ (h : i = a) => by rcases hs1 a hGa with h9 | h9; exact Or.inl (h ▸ h9); exact Or.inr (h ▸ h9))
            have hb0 : DBlk V0 a { D1 with over := true } pv1 nv1 := by rw [← hV0]; exact hb1.sover true
            have jw : V0.cell? ⟨a, 773, none⟩ = some (.int .i64 w1) := by rw [← HW1.out]; exact hb0.fw.1
            have hp0 : Own .u8 5 V0 pv1 D1.p := hp1.kept hk0 (fun b hb (h : b = a) => o1 (h ▸ hb))
            obtain ⟨sa, cap, hpv, hsl, hlc, hcm, hnil, hown⟩ := hp0.shape
            obtain ⟨WR, hWR⟩ : ∃ WR, WR = V0.drew := ⟨_, rfl⟩
            have hkR : Kept (fun _ => False) V0 WR := by rw [hWR]; exact (Kept.refl _ _).drew
            have hbR := hb0.kept hkR id
            have y0 : WR.cell? ⟨a, 773, none⟩ = some (.int .i64 w1) := by rw [← HW1.out]; exact hbR.fw.1
            obtain ⟨h1, hh1⟩ : ∃ h1, D1.h = h1 := ⟨_, rfl⟩
            have y1 : WR.cell? ⟨a, 774, none⟩ = some (.int .i64 h1) := by rw [← hh1]; exact hbR.fh.1
            obtain ⟨PL, hPL⟩ : ∃ n, D1.p.length = n := ⟨_, rfl⟩
            obtain ⟨PP, hPP⟩ : ∃ p, D1.p = p := ⟨_, rfl⟩
            rw [hPL] at hpv hsl hlc hnil
            rw [hPP] at hsl hPL hp0
            have hpl4 : PL = 4 * D1.w.toNat * D1.h.toNat := by rw [← hPL, ← hPP]; exact HOK.out.pic.p HF1.out
            have hplb : PL ≤ 1073741824 := by
              rw [hpl4, Nat.mul_assoc]
              have h9 : D1.w.toNat * D1.h.toNat ≤ 16384 * 16384 := Nat.mul_le_mul HOK.out.pic.wb HOK.out.pic.hb
              omega
            obtain ⟨NP, hNP⟩ : ∃ n, PL = 4 * n := ⟨D1.w.toNat * D1.h.toNat, by rw [hpl4, Nat.mul_assoc]⟩
            have y2 : WR.cell? ⟨a, 775, none⟩ = some (.slice sa PL cap) := by rw [← hpv]; exact hbR.fp.1
            have X0 := cell_regrown y0
            have X1 := cell_regrown y1
            have X2 := cell_regrown y2
            obtain ⟨RC, hRC⟩ : ∃ R : Value → World → Prop, R = fun v w' => ∃ va vc, v = .slice va PL vc ∧ Own .u8 5 w' (.slice va PL vc) PP ∧ ∀ b, v.ownBlock = some b → WR.heap.size ≤ b := ⟨_, rfl⟩
            obtain ⟨RA, hRA⟩ : ∃ R : Value → World → Prop, R = fun v w' => ∃ q, v = .pointer (some ⟨q, 0, none⟩) ∧ WR.heap.size ≤ q ∧ w'.heap[q]? = some (.cells #[.int .i64 0, .int .i64 0, .slice none 0 0] 61 (0, 0)) := ⟨_, rfl⟩
            obtain ⟨c0, hc0⟩ : ∃ c, D1.l.getD 0 0 = c := ⟨_, rfl⟩
            obtain ⟨c1, hc1⟩ : ∃ c, D1.l.getD 1 0 = c := ⟨_, rfl⟩
            obtain ⟨c2, hc2⟩ : ∃ c, D1.l.getD 2 0 = c := ⟨_, rfl⟩
            obtain ⟨RQ, hRQ⟩ : ∃ R : Value → World → Prop, R = fun v w' => ∃ q, v = .slice (some ⟨q, 0, none⟩) 0 0 ∧ WR.heap.size ≤ q ∧ Own .u8 5 w' (.slice (some ⟨q, 0, none⟩) 0 0) [] := ⟨_, rfl⟩
            obtain ⟨i0, hi, hz0, hz1, hz2⟩ := info_parts Try.infoByte
            have HI := Lib.hid (And.intro hi (And.intro hz0 (And.intro hz1 hz2)))
            have hmul : w1 * h1 = (NP : Int) := by
              have e1 : (D1.w.toNat : Int) = w1 := HOK.out.pic.w.symm.trans HW1.out
              have e2 : (D1.h.toNat : Int) = h1 := HOK.out.pic.h.symm.trans hh1
              have e3 : D1.w.toNat * D1.h.toNat = NP := by rw [Nat.mul_assoc] at hpl4; omega
              rw [← e1, ← e2, ← e3]; simp
            have hnp : IntKind.i64.wrap (NP : Int) = (NP : Int) := IntWalk.i64_in _ (by omega)
            have HSL := Lib.hid (And.intro (hsl.kept hkR (fun _ _ _ _ => id)) (And.intro hnil (show PL ≤ 1073741824 from by omega)))
            have HRQ := Lib.hid hRQ
            have HRC := Lib.hid hRC
            have HRA := Lib.hid hRA
            have HWR := Lib.hid hWR
            have HB0 := Lib.hid (And.intro hb0 (And.intro trivial (And.intro hq0 (And.intro trivial (And.intro hkR hWq)))))
            have HG1 := Lib.hid (show ∃ G1, DOwn G1 V0 a { D1 with over := true } ∧ (∀ i, G1 i → G i ∨ W.heap.size ≤ i) ∧ ¬ G1 q ∧ Kept G W V0 from ⟨G1, hD0, hs1, hnq, hk0W⟩)
            have HCC := Lib.hid (And.intro hc0 (And.intro hc1 (And.intro hc2 (And.intro hh1 (And.intro hPP (And.intro hPL hNP))))))
            clear hDO hs1 hkq hnq hqb hWq hb1 hp1 hn1 o1 o2 o3 hG1 hqa hD0 hk0 hq0 hGa hk0W hb0 hp0 hsl hpv hnil hown hWR hkR hbR hh1 hPL hPP hpl4 hNP hRC hRA hRQ hi hz0 hz1 hz2 hc0 hc1 hc2
            go_wp2
            refine wp_region_grow #[0, 1, 3, 7, 0, 16, 48, 112, 0, 0, 512, 1536, 3584, 7936, 16383, 0, 65535] 16 [] (fun i => if i = 8 then some RQ else if i = 13 then some RC else if i = 15 then some RA else none) (by kernel_rfl) rfl (by kernel_rfl) (fun i hi => by cases hi) (fun _ _ _ _ _ h => h) ?_
            rintro _ rfl
            rw [← HWR.out]
            simp only [List.take_succ_cons, List.take_zero, List.drop_succ_cons, List.drop_zero, number, Nat.reduceAdd]
            iterate 8 (refine wpGrow_step (fun K hK => ?_); go_simp; refine hK _ _ ?_; clear hK K)
            refine wpGrow_step (fun K hK => ?_)
            go_simp
            refine ⟨fun w' hg => ⟨(Kept.refl _ _).alloc _, by rw [HRQ.out]; exact ⟨_, rfl, hg.old.size, Own.new .u8 _⟩⟩, fun v8 w8 hv8 _ => ?_⟩
            rw [HRQ.out] at hv8
            obtain ⟨q8, rfl, hq8⟩ := hv8
            have HQ8 := Lib.hid hq8
            clear hq8
            refine hK _ _ ?_; clear hK K
            iterate 4 (refine wpGrow_step (fun K hK => ?_); go_simp; refine hK _ _ ?_; clear hK K)
            refine wpGrow_step (fun K hK => ?_)
            refine growOp_told rfl rfl (fun w' hg => ?_) (fun v12 w12 hv12 hg12 => ?_)
            · obtain ⟨v, w3, hr, h1, h2, h3⟩ := app_fresh (P := Try.prog) (w := w') 30 30 5 i0 Try.underlying30 HI.out.1 HI.out.2.1 HI.out.2.2.1 HI.out.2.2.2 q8 (HQ8.out.2.kept (show Kept (fun _ => False) w8 w' from hg.seen 8 (by kernel_rfl)) (fun _ _ => id)) sa PL cap PP (HSL.out.1.kept hg.old (fun _ _ _ _ => id)) HSL.out.2.1 HSL.out.2.2
              refine upon_append (.tmp 50) (.tmp 54) 30 rfl rfl rfl hr h2 ?_
              rw [HRC.out]
              obtain ⟨va, vc, rfl, -⟩ := h1.shape
              rw [HCC.out.2.2.2.2.2.1] at h1 h3 ⊢
              refine ⟨va, vc, rfl, h1, fun b hb => ?_⟩
              have h9 := hg.old.size
              have h8 := HQ8.out.1
              rcases h3 with h3 | h3
              · rw [hb] at h3; cases h3; exact h8
              · rw [hb] at h3; cases h3; exact h9
            rw [HRC.out] at hv12
            obtain ⟨va, vc, rfl, hv12⟩ := hv12
            have HV12 := Lib.hid hv12
            clear hv12
            go_simp
            refine hK _ _ ?_; clear hK K
            refine wpGrow_step (fun K hK => ?_); go_simp; refine hK _ _ ?_; clear hK K
            refine wpGrow_step (fun K hK => ?_)
            go_simp
            refine ⟨fun w' hg => ⟨(Kept.refl _ _).alloc _, by rw [HRA.out]; exact ⟨_, rfl, hg.old.size, blk_new _ _⟩⟩, fun v14 w14 hv14 _ => ?_⟩
            rw [HRA.out] at hv14
            obtain ⟨Q, rfl, hQW, hQb⟩ := hv14
            refine hK _ _ ?_; clear hK K
            refine wpGrow_nil ?_
            intro w3 hk3 hω
            have hQ3 : w3.heap[Q]? = _ := Kept.blk (show Kept _ w14 w3 from hω 15) hQb id
            have hv3 : Own .u8 5 w3 (.slice va PL vc) PP := HV12.out.1.kept (show Kept (fun _ => False) w12 w3 from hω 13) (fun _ _ => id)
            have hvQ : (Value.slice va PL vc).ownBlock ≠ some Q := ne_blk hv3 hQ3 (by decide)
            obtain ⟨U1, U2, U3, u1, u2, u3, ⟨i1, i1'⟩, ⟨i2, i2'⟩, ⟨i3, i3'⟩, hcU, hkU⟩ := store3 hQ3 (.int .i64 w1) (.int .i64 h1) (.slice va PL vc)
            clear hω X0 X1 X2 y0 y1 y2
            have hQV : V0.heap.size ≤ Q := Nat.le_trans HB0.out.2.2.2.2.1.size hQW
            have hbU : DBlk U3 a { D1 with over := true } pv1 nv1 := (HB0.out.1.kept (HB0.out.2.2.2.2.1.then hk3) id).kept hkU (fun (h : a = Q) => by have := HB0.out.1.lt; omega)
            obtain ⟨cl, hcl⟩ : ∃ b, D1.clear = b := ⟨_, rfl⟩
            have HCLR := Lib.hid hcl
            clear hcl
            have hv3U := hv3.kept hkU (fun b hb (h : b = Q) => hvQ (h ▸ hb))
            have hkV0U : Kept (fun b => V0.heap.size ≤ b) V0 U3 := (((HB0.out.2.2.2.2.1.then hk3).mono fun _ _ h => h.elim)).then (hkU.mono fun b _ (h : b = Q) => by rw [h]; exact hQV)
            have HU := Lib.hid (And.intro hbU (And.intro hv3U (And.intro hvQ hcU)))
            have HKC := Lib.hid hkV0U
            clear hQ3 hv3 hvQ hcU hkU hk3 hQV hQb hQW hbU hv3U hkV0U
            go_wp2
            cases cl with
            | true =>
              have HXO := Lib.hid (show Own .u8 5 U3 (.slice va PL vc) PP ∧ Kept (fun b => (Value.slice va PL vc).ownBlock = some b) U3 U3 from ⟨HU.out.2.1, Kept.refl _ _⟩)
              have HPF := Lib.hid (show (if D1.clear = true then D1.p else filled D1.p [D1.l.getD 0 0, D1.l.getD 1 0, D1.l.getD 2 0, 255]) = PP from by rw [HCLR.out, if_pos rfl, HCC.out.2.2.2.2.1])
              refine wp_loop_rounds 1 ?_
              rw [rounds_succ]
              by_cases h0 : 0 < NP
              · have g0 : decide (0 < NP) = true := decide_eq_true h0
                have g0' : decide ((0 : Int) < (NP : Int)) = true := decide_eq_true (by omega)
                have hqX : U3.heap[q]? = some (.cells #[.int .i64 0, .int .i64 0, .slice none 0 0] 61 (0, 0)) := HXO.out.2.blk (HKC.out.blk HB0.out.2.2.1 (fun (h : V0.heap.size ≤ q) => by have := lt_of_blk HB0.out.2.2.1; omega)) (fun h => by have := HV12.out.2 q h; have := lt_of_blk HB0.out.2.2.1; have := HB0.out.2.2.2.2.1.size; omega)
                have hQX := HXO.out.2.blk HU.out.2.2.2 HU.out.2.2.1
                obtain ⟨E1, hE1⟩ : ∃ D, U3.drew = D := ⟨_, rfl⟩
                have kE : Kept (fun _ => False) U3 E1 := by rw [← hE1]; exact (Kept.refl _ U3).drew
                obtain ⟨⟨r0, -⟩, ⟨r1, -⟩, r2, -⟩ := blk3 (kE.blk hQX id)
                have hbY := HU.out.1.kept HXO.out.2 (fun h => by have := HV12.out.2 a h; have := HB0.out.1.lt; have := HB0.out.2.2.2.2.1.size; omega)
                have hbE := hbY.kept kE id
                have j0 : U3.cell? ⟨a, 773, none⟩ = some (.int .i64 w1) := by rw [← HW1.out]; exact hbY.fw.1
                have j1 : U3.cell? ⟨a, 774, none⟩ = some (.int .i64 h1) := by rw [← HCC.out.2.2.2.1]; exact hbY.fh.1
                have j2 : U3.cell? ⟨a, 0, none⟩ = some (.bool true) := by rw [← HCLR.out]; exact hbY.fclear.1
                have k0 : E1.cell? ⟨a, 773, none⟩ = some (.int .i64 w1) := by rw [← HW1.out]; exact hbE.fw.1
                have k1 : E1.cell? ⟨a, 774, none⟩ = some (.int .i64 h1) := by rw [← HCC.out.2.2.2.1]; exact hbE.fh.1
                have k2 : E1.cell? ⟨a, 0, none⟩ = some (.bool true) := by rw [← HCLR.out]; exact hbE.fclear.1
                obtain ⟨Z1, Z2, Z3, f1, f2, f3, ⟨e1, e1'⟩, ⟨e2, e2'⟩, ⟨e3, e3'⟩, hcZ, hkZ⟩ := store3 (kE.blk hqX id) (.int .i64 w1) (.int .i64 h1) (.slice va PL vc)
                obtain ⟨⟨z0, -⟩, ⟨z1, -⟩, z2, -⟩ := blk3 hcZ
                have HEND := Lib.hid (show Ends G W Z3 a d.fin (.returned (.tuple #[.agg #[.int .i64 w1, .int .i64 h1, .slice va PL vc], .int .i64 0])) from by
                  rw [fin_main HFIN.out HF1.out (by rw [HW1.out]; intro h; rw [h] at hz; exact absurd hz (by decide)) HO1.out, HPF.out, ← HW1.out, ← HCC.out.2.2.2.1]
                  have hkall : Kept (fun b => V0.heap.size ≤ b ∨ b = q) V0 Z3 := (((HKC.out.mono fun _ _ h => Or.inl h).then (HXO.out.2.mono fun b _ h => Or.inl (Nat.le_trans HB0.out.2.2.2.2.1.size (HV12.out.2 b h)))).then (kE.mono fun _ _ h => h.elim)).then (hkZ.mono fun b _ (h : b = q) => Or.inr h)
                  obtain ⟨G1, hD0, hs1, hnq, hk0W⟩ := HG1.out
                  refine ⟨_, G1, rfl, (HXO.out.1.kept kE (fun _ _ => id)).kept hkZ (fun b hb (h : b = q) => by have := HV12.out.2 b hb; have := lt_of_blk HB0.out.2.2.1; have := HB0.out.2.2.2.2.1.size; omega), hD0.kept hkall (fun b hb h => by
                    rcases h with h | h
                    · have := hD0.lt b hb; omega
                    · exact hnq (h ▸ hb)), hs1, hk0W.trans (hkall.mono fun b hb h => by
                    rcases h with h | h
                    · omega
                    · right; have := HB0.out.2.2.2.2.2; omega), fun b hb => ?_⟩
                  have h9 := HV12.out.2 b hb
                  have h8 := HB0.out.2.2.2.2.1.size
                  have h7 := hk0W.size
                  exact ⟨by omega, fun h => by have := hD0.lt b h; omega⟩)
                clear hqX hQX hcZ hkZ hbY hbE kE
                go_wp2
                go_still (by kernel_rfl)
                rw [show (World.mk U3.heap U3.tape (U3.drawn + 1) U3.os U3.output) = E1 from hE1]
                go_wp2
                refine bodyPost_ret (v := .tuple #[.agg #[.int .i64 w1, .int .i64 h1, .slice va PL vc], .int .i64 0]) (by simp [results, Try.results28, go_sem, z0, z1, z2]) rfl ?_
                exact HEND.out
              · have g0 : decide (0 < NP) = false := decide_eq_false h0
                have g0' : decide ((0 : Int) < (NP : Int)) = false := decide_eq_false (by omega)
                have hqX : U3.heap[q]? = some (.cells #[.int .i64 0, .int .i64 0, .slice none 0 0] 61 (0, 0)) := HXO.out.2.blk (HKC.out.blk HB0.out.2.2.1 (fun (h : V0.heap.size ≤ q) => by have := lt_of_blk HB0.out.2.2.1; omega)) (fun h => by have := HV12.out.2 q h; have := lt_of_blk HB0.out.2.2.1; have := HB0.out.2.2.2.2.1.size; omega)
                have hQX := HXO.out.2.blk HU.out.2.2.2 HU.out.2.2.1
                obtain ⟨E1, hE1⟩ : ∃ D, U3.drew = D := ⟨_, rfl⟩
                have kE : Kept (fun _ => False) U3 E1 := by rw [← hE1]; exact (Kept.refl _ U3).drew
                obtain ⟨⟨r0, -⟩, ⟨r1, -⟩, r2, -⟩ := blk3 (kE.blk hQX id)
                have hbY := HU.out.1.kept HXO.out.2 (fun h => by have := HV12.out.2 a h; have := HB0.out.1.lt; have := HB0.out.2.2.2.2.1.size; omega)
                have hbE := hbY.kept kE id
                have j0 : U3.cell? ⟨a, 773, none⟩ = some (.int .i64 w1) := by rw [← HW1.out]; exact hbY.fw.1
                have j1 : U3.cell? ⟨a, 774, none⟩ = some (.int .i64 h1) := by rw [← HCC.out.2.2.2.1]; exact hbY.fh.1
                have j2 : U3.cell? ⟨a, 0, none⟩ = some (.bool true) := by rw [← HCLR.out]; exact hbY.fclear.1
                have k0 : E1.cell? ⟨a, 773, none⟩ = some (.int .i64 w1) := by rw [← HW1.out]; exact hbE.fw.1
                have k1 : E1.cell? ⟨a, 774, none⟩ = some (.int .i64 h1) := by rw [← HCC.out.2.2.2.1]; exact hbE.fh.1
                have k2 : E1.cell? ⟨a, 0, none⟩ = some (.bool true) := by rw [← HCLR.out]; exact hbE.fclear.1
                obtain ⟨Z1, Z2, Z3, f1, f2, f3, ⟨e1, e1'⟩, ⟨e2, e2'⟩, ⟨e3, e3'⟩, hcZ, hkZ⟩ := store3 (kE.blk hqX id) (.int .i64 w1) (.int .i64 h1) (.slice va PL vc)
                obtain ⟨⟨z0, -⟩, ⟨z1, -⟩, z2, -⟩ := blk3 hcZ
                have HEND := Lib.hid (show Ends G W Z3 a d.fin (.returned (.tuple #[.agg #[.int .i64 w1, .int .i64 h1, .slice va PL vc], .int .i64 0])) from by
                  rw [fin_main HFIN.out HF1.out (by rw [HW1.out]; intro h; rw [h] at hz; exact absurd hz (by decide)) HO1.out, HPF.out, ← HW1.out, ← HCC.out.2.2.2.1]
                  have hkall : Kept (fun b => V0.heap.size ≤ b ∨ b = q) V0 Z3 := (((HKC.out.mono fun _ _ h => Or.inl h).then (HXO.out.2.mono fun b _ h => Or.inl (Nat.le_trans HB0.out.2.2.2.2.1.size (HV12.out.2 b h)))).then (kE.mono fun _ _ h => h.elim)).then (hkZ.mono fun b _ (h : b = q) => Or.inr h)
                  obtain ⟨G1, hD0, hs1, hnq, hk0W⟩ := HG1.out
                  refine ⟨_, G1, rfl, (HXO.out.1.kept kE (fun _ _ => id)).kept hkZ (fun b hb (h : b = q) => by have := HV12.out.2 b hb; have := lt_of_blk HB0.out.2.2.1; have := HB0.out.2.2.2.2.1.size; omega), hD0.kept hkall (fun b hb h => by
                    rcases h with h | h
                    · have := hD0.lt b hb; omega
                    · exact hnq (h ▸ hb)), hs1, hk0W.trans (hkall.mono fun b hb h => by
                    rcases h with h | h
                    · omega
                    · right; have := HB0.out.2.2.2.2.2; omega), fun b hb => ?_⟩
                  have h9 := HV12.out.2 b hb
                  have h8 := HB0.out.2.2.2.2.1.size
                  have h7 := hk0W.size
                  exact ⟨by omega, fun h => by have := hD0.lt b h; omega⟩)
                clear hqX hQX hcZ hkZ hbY hbE kE
                go_wp2
                go_still (by kernel_rfl)
                rw [show (World.mk U3.heap U3.tape (U3.drawn + 1) U3.os U3.output) = E1 from hE1]
                go_wp2
                refine bodyPost_ret (v := .tuple #[.agg #[.int .i64 w1, .int .i64 h1, .slice va PL vc], .int .i64 0]) (by simp [results, Try.results28, go_sem, z0, z1, z2]) rfl ?_
                exact HEND.out
            | false =>
              go_loopg [6] NP (fun gg iv wr => ∃ i : Nat, NP ≤ gg + i ∧ i ≤ NP ∧ iv = .int .i64 (i : Int) ∧ Own .u8 5 wr (.slice va PL vc) (tab PL (fillF PP [c0, c1, c2, 255] i)) ∧ Kept (fun b => (Value.slice va PL vc).ownBlock = some b) U3 wr)
              case atStart => exact ⟨0, by omega, by omega, rfl, by rw [fill_start PP _ PL HCC.out.2.2.2.2.2.1]; exact HU.out.2.1, Kept.refl _ _⟩
              case round =>
                obtain ⟨i, hgg, hin, rfl, ho, hk⟩ := hrel
                have HXO := Lib.hid (And.intro ho hk)
                have hPL4 : PL = 4 * NP := HCC.out.2.2.2.2.2.2
                by_cases hii : i < NP
                · have g0 : decide (i < NP) = true := decide_eq_true hii
                  have g0' : decide ((i : Int) < (NP : Int)) = true := decide_eq_true (by omega)
                  have hle : 4 * i + 4 ≤ PL := by omega
                  have hPLb := HSL.out.2.2
                  obtain ⟨g, cp, hv, hlc, hcm⟩ := Own.row ho (by rw [tab_length]; omega)
                  rw [tab_length] at hv hlc
                  obtain ⟨hva, -, hvc⟩ : va = some ⟨g, 0, none⟩ ∧ PL = PL ∧ vc = cp := by injection hv with h1 h2 h3; exact ⟨h1, rfl, h3⟩
                  have hob : (Value.slice va PL vc).ownBlock = some g := by rw [hva]; rfl
                  have hga : g ≠ a := fun h => by have := HV12.out.2 g hob; have := HB0.out.1.lt; have := HB0.out.2.2.2.2.1.size; omega
                  have hgQ : g ≠ Q := fun h => HU.out.2.2.1 (by rw [hob, h])
                  obtain ⟨o, ho4⟩ : ∃ o, 4 * i = o := ⟨_, rfl⟩
                  have s0 : Est U3 a g PL vc Q { D1 with over := true } pv1 nv1 #[.int .i64 w1, .int .i64 h1, .slice (some ⟨g, 0, none⟩) PL vc] wr (tab PL (fillF PP [c0, c1, c2, 255] i)) :=
                    ⟨by rw [← hva]; exact ho, HU.out.1.kept hk (fun h => hga (by rw [hob] at h; exact Option.some.inj h)), by rw [← hva]; exact hk.blk HU.out.2.2.2 HU.out.2.2.1, hk.mono (fun i _ hi => by rw [hob] at hi; exact (Option.some.inj hi).symm), hga, hgQ⟩
                  obtain ⟨E1, hE1⟩ : ∃ D, wr.drew = D := ⟨_, rfl⟩
                  have s1 := s0.drew
                  rw [hE1] at s1
                  have j0 : wr.cell? ⟨a, 773, none⟩ = some (.int .i64 w1) := by rw [← HW1.out]; exact s0.2.1.fw.1
                  have j1 : wr.cell? ⟨a, 774, none⟩ = some (.int .i64 h1) := by rw [← HCC.out.2.2.2.1]; exact s0.2.1.fh.1
                  have j2 : wr.cell? ⟨a, 0, none⟩ = some (.bool false) := by rw [← HCLR.out]; exact s0.2.1.fclear.1
                  have k0 : E1.cell? ⟨a, 773, none⟩ = some (.int .i64 w1) := by rw [← HW1.out]; exact s1.2.1.fw.1
                  have k1 : E1.cell? ⟨a, 774, none⟩ = some (.int .i64 h1) := by rw [← HCC.out.2.2.2.1]; exact s1.2.1.fh.1
                  have k2 : E1.cell? ⟨a, 0, none⟩ = some (.bool false) := by rw [← HCLR.out]; exact s1.2.1.fclear.1
                  obtain ⟨-, -, r1, -⟩ := blk3 s1.2.2.1
                  have q4 : IntKind.i64.wrap (4 * (i : Int)) = (o : Int) := by rw [IntWalk.i64_in _ (by omega)]; omega
                  have q9 : IntKind.i64.wrap ((i : Int) + 1) = (i : Int) + 1 := IntWalk.i64_in _ (by omega)
                  have y3 : IntKind.i64.wrap ((o : Int) + 3) = (o : Int) + 3 := IntWalk.i64_in _ (by omega)
                  have l3 : (o : Int) + 3 < (PL : Int) := by omega
                  have l3' : 0 ≤ (o : Int) + 3 := by omega
                  have t3 : ((o : Int) + 3).toNat = o + 3 := by omega
                  obtain ⟨y, hy⟩ : ∃ y, PP.getD (4 * i + 3) 0 = y := ⟨_, rfl⟩
                  have x9 := s1.1.at.2.2.2.1 (o + 3) (by omega)
                  rw [← ho4, fill_at PP [c0, c1, c2, 255] PL i hle, hy, ho4] at x9
                  have HI2 := Lib.hid (And.intro hva hob)
                  by_cases hy0 : y = 0
                  · subst hy0
                    have hst := fill_step PP c0 c1 c2 255 PL i hle hy
                    rw [ho4] at hst
                    have y1 : IntKind.i64.wrap ((o : Int) + 1) = (o : Int) + 1 := IntWalk.i64_in _ (by omega)
                    have y2 : IntKind.i64.wrap ((o : Int) + 2) = (o : Int) + 2 := IntWalk.i64_in _ (by omega)
                    have l0 : o < PL := by omega
                    have l0' : (o : Int) < (PL : Int) := by omega
                    have l1 : (o : Int) + 1 < (PL : Int) := by omega
                    have l2 : (o : Int) + 2 < (PL : Int) := by omega
                    have l1' : 0 ≤ (o : Int) + 1 := by omega
                    have l2' : 0 ≤ (o : Int) + 2 := by omega
                    have t1 : ((o : Int) + 1).toNat = o + 1 := by omega
                    have t2 : ((o : Int) + 2).toNat = o + 2 := by omega
                    obtain ⟨Q2, hQ2⟩ : ∃ D, E1.drew = D := ⟨_, rfl⟩
                    have s2 := s1.drew
                    rw [hQ2] at s2
                    obtain ⟨P0, hP0⟩ : ∃ D, Q2.setCell ⟨g, o, none⟩ (.int .u8 c0) = D := ⟨_, rfl⟩
                    have s3 := s2.set (i := o) (by omega) c0
                    rw [hP0] at s3
                    obtain ⟨Q3, hQ3⟩ : ∃ D, P0.drew = D := ⟨_, rfl⟩
                    have s4 := s3.drew
                    rw [hQ3] at s4
                    obtain ⟨P1, hP1⟩ : ∃ D, Q3.setCell ⟨g, o + 1, none⟩ (.int .u8 c1) = D := ⟨_, rfl⟩
                    have s5 := s4.set (i := o + 1) (by omega) c1
                    rw [hP1] at s5
                    obtain ⟨Q4, hQ4⟩ : ∃ D, P1.drew = D := ⟨_, rfl⟩
                    have s6 := s5.drew
                    rw [hQ4] at s6
                    obtain ⟨P2, hP2⟩ : ∃ D, Q4.setCell ⟨g, o + 2, none⟩ (.int .u8 c2) = D := ⟨_, rfl⟩
                    have s7 := s6.set (i := o + 2) (by omega) c2
                    rw [hP2] at s7
                    obtain ⟨P3, hP3⟩ : ∃ D, P2.setCell ⟨g, o + 3, none⟩ (.int .u8 255) = D := ⟨_, rfl⟩
                    have s8 := s7.set (i := o + 3) (by omega) 255
                    rw [hP3, set4_spl _ _ _ _ _ _ (by rw [tab_length]; omega), hst] at s8
                    have S8 := Lib.hid s8
                    obtain ⟨-, -, zp2, -⟩ := blk3 s2.2.2.1
                    obtain ⟨-, -, zp3, -⟩ := blk3 s4.2.2.1
                    obtain ⟨-, -, zp4, -⟩ := blk3 s6.2.2.1
                    obtain ⟨-, -, zp5, -⟩ := blk3 s7.2.2.1
                    have u0 : Q2.cell? ⟨a, 2, none⟩ = some (.int .u8 c0) := by rw [← HCC.out.1]; exact (s2.2.1.reg 0 (by omega)).1
                    have u1 : Q3.cell? ⟨a, 3, none⟩ = some (.int .u8 c1) := by rw [← HCC.out.2.1]; exact (s4.2.1.reg 1 (by omega)).1
                    have u2 : Q4.cell? ⟨a, 4, none⟩ = some (.int .u8 c2) := by rw [← HCC.out.2.2.1]; exact (s6.2.1.reg 2 (by omega)).1
                    have x0 := s2.1.at.2.2.2.1 o (by omega)
                    have x0' := s2.1.at.2.2.2.2 o
                    have x1 := s4.1.at.2.2.2.1 (o + 1) (by omega)
                    have x1' := s4.1.at.2.2.2.2 (o + 1)
                    have x2 := s6.1.at.2.2.2.1 (o + 2) (by omega)
                    have x2' := s6.1.at.2.2.2.2 (o + 2)
                    have x3 := s7.1.at.2.2.2.1 (o + 3) (by omega)
                    have x3' := s7.1.at.2.2.2.2 (o + 3)
                    generalize (tab PL (fillF PP [c0, c1, c2, 255] i)).getD o 0 = A0 at x0
                    generalize ((tab PL (fillF PP [c0, c1, c2, 255] i)).set o c0).getD (o + 1) 0 = A1 at x1
                    generalize (((tab PL (fillF PP [c0, c1, c2, 255] i)).set o c0).set (o + 1) c1).getD (o + 2) 0 = A2 at x2
                    generalize ((((tab PL (fillF PP [c0, c1, c2, 255] i)).set o c0).set (o + 1) c1).set (o + 2) c2).getD (o + 3) 0 = A3 at x3
                    clear hst hle ho4 s0 s1 s2 s3 s4 s5 s6 s7 s8 ho hk hPL4 hv hlc hcm hva hvc hob hga hgQ hy
                    go_wp2
                    go_still (by kernel_rfl)
                    rw [show (World.mk wr.heap wr.tape (wr.drawn + 1) wr.os wr.output) = E1 from hE1]
                    go_wp2
                    go_still_tail 11, (by kernel_rfl)
                    change wpList _ _ _ _ _ E1.drew
                    rw [hQ2]
                    go_wp2
                    go_still_tail 12, (by kernel_rfl)
                    change wpList _ _ _ _ _ P0.drew
                    rw [hQ3]
                    go_wp2
                    go_still_tail 12, (by kernel_rfl)
                    change wpList _ _ _ _ _ P1.drew
                    rw [hQ4]
                    go_wp2
                    have S9 := Lib.hid (show Own .u8 5 P3 (.slice va PL vc) (tab PL (fillF PP [c0, c1, c2, 255] (i + 1))) ∧ Kept (fun b => (Value.slice va PL vc).ownBlock = some b) U3 P3 from ⟨by rw [HI2.out.1]; exact S8.out.1, S8.out.2.2.2.1.mono fun i _ (hi : i = g) => by rw [HI2.out.2, hi]⟩)
                    go_roundg (gk - 1)
                    case rel => exact ⟨i + 1, by omega, by omega, by simp, S9.out⟩
                    case measure => omega
                  · have gy : ((y : Int) == 0) = false := by simpa using hy0
                    have S9 := Lib.hid (show Own .u8 5 E1 (.slice va PL vc) (tab PL (fillF PP [c0, c1, c2, 255] (i + 1))) ∧ Kept (fun b => (Value.slice va PL vc).ownBlock = some b) U3 E1 from ⟨by rw [HI2.out.1, ← fill_keep PP [c0, c1, c2, 255] PL i (by rw [hy]; exact hy0)]; exact s1.1, s1.2.2.2.1.mono fun i _ (hi : i = g) => by rw [HI2.out.2, hi]⟩)
                    clear hle ho4 s0 s1 ho hk hPL4 hv hlc hcm hva hvc hob hga hgQ hy hy0
                    go_wp2
                    go_still (by kernel_rfl)
                    rw [show (World.mk wr.heap wr.tape (wr.drawn + 1) wr.os wr.output) = E1 from hE1]
                    go_wp2
                    go_roundg (gk - 1)
                    case rel => exact ⟨i + 1, by omega, by omega, by simp, S9.out⟩
                    case measure => omega
                · have g0 : decide (i < NP) = false := decide_eq_false hii
                  have g0' : decide ((i : Int) < (NP : Int)) = false := decide_eq_false (by omega)
                  obtain rfl : i = NP := by omega
                  have HPF := Lib.hid (show (if D1.clear = true then D1.p else filled D1.p [D1.l.getD 0 0, D1.l.getD 1 0, D1.l.getD 2 0, 255]) = tab PL (fillF PP [c0, c1, c2, 255] i) from by
                    rw [HCLR.out, if_neg (by decide), HCC.out.1, HCC.out.2.1, HCC.out.2.2.1, HCC.out.2.2.2.2.1]
                    unfold filled
                    rw [HCC.out.2.2.2.2.2.1, show PL / 4 = i by omega])
                  clear ho hk hPL4
                  have hqX : wr.heap[q]? = some (.cells #[.int .i64 0, .int .i64 0, .slice none 0 0] 61 (0, 0)) := HXO.out.2.blk (HKC.out.blk HB0.out.2.2.1 (fun (h : V0.heap.size ≤ q) => by have := lt_of_blk HB0.out.2.2.1; omega)) (fun h => by have := HV12.out.2 q h; have := lt_of_blk HB0.out.2.2.1; have := HB0.out.2.2.2.2.1.size; omega)
                  have hQX := HXO.out.2.blk HU.out.2.2.2 HU.out.2.2.1
                  obtain ⟨E1, hE1⟩ : ∃ D, wr.drew = D := ⟨_, rfl⟩
                  have kE : Kept (fun _ => False) wr E1 := by rw [← hE1]; exact (Kept.refl _ wr).drew
                  obtain ⟨⟨r0, -⟩, ⟨r1, -⟩, r2, -⟩ := blk3 (kE.blk hQX id)
                  have hbY := HU.out.1.kept HXO.out.2 (fun h => by have := HV12.out.2 a h; have := HB0.out.1.lt; have := HB0.out.2.2.2.2.1.size; omega)
                  have hbE := hbY.kept kE id
                  have j0 : wr.cell? ⟨a, 773, none⟩ = some (.int .i64 w1) := by rw [← HW1.out]; exact hbY.fw.1
                  have j1 : wr.cell? ⟨a, 774, none⟩ = some (.int .i64 h1) := by rw [← HCC.out.2.2.2.1]; exact hbY.fh.1
                  have j2 : wr.cell? ⟨a, 0, none⟩ = some (.bool false) := by rw [← HCLR.out]; exact hbY.fclear.1
                  have k0 : E1.cell? ⟨a, 773, none⟩ = some (.int .i64 w1) := by rw [← HW1.out]; exact hbE.fw.1
                  have k1 : E1.cell? ⟨a, 774, none⟩ = some (.int .i64 h1) := by rw [← HCC.out.2.2.2.1]; exact hbE.fh.1
                  have k2 : E1.cell? ⟨a, 0, none⟩ = some (.bool false) := by rw [← HCLR.out]; exact hbE.fclear.1
                  obtain ⟨Z1, Z2, Z3, f1, f2, f3, ⟨e1, e1'⟩, ⟨e2, e2'⟩, ⟨e3, e3'⟩, hcZ, hkZ⟩ := store3 (kE.blk hqX id) (.int .i64 w1) (.int .i64 h1) (.slice va PL vc)
                  obtain ⟨⟨z0, -⟩, ⟨z1, -⟩, z2, -⟩ := blk3 hcZ
                  have HEND := Lib.hid (show Ends G W Z3 a d.fin (.returned (.tuple #[.agg #[.int .i64 w1, .int .i64 h1, .slice va PL vc], .int .i64 0])) from by
                    rw [fin_main HFIN.out HF1.out (by rw [HW1.out]; intro h; rw [h] at hz; exact absurd hz (by decide)) HO1.out, HPF.out, ← HW1.out, ← HCC.out.2.2.2.1]
                    have hkall : Kept (fun b => V0.heap.size ≤ b ∨ b = q) V0 Z3 := (((HKC.out.mono fun _ _ h => Or.inl h).then (HXO.out.2.mono fun b _ h => Or.inl (Nat.le_trans HB0.out.2.2.2.2.1.size (HV12.out.2 b h)))).then (kE.mono fun _ _ h => h.elim)).then (hkZ.mono fun b _ (h : b = q) => Or.inr h)
                    obtain ⟨G1, hD0, hs1, hnq, hk0W⟩ := HG1.out
                    refine ⟨_, G1, rfl, (HXO.out.1.kept kE (fun _ _ => id)).kept hkZ (fun b hb (h : b = q) => by have := HV12.out.2 b hb; have := lt_of_blk HB0.out.2.2.1; have := HB0.out.2.2.2.2.1.size; omega), hD0.kept hkall (fun b hb h => by
                      rcases h with h | h
                      · have := hD0.lt b hb; omega
                      · exact hnq (h ▸ hb)), hs1, hk0W.trans (hkall.mono fun b hb h => by
                      rcases h with h | h
                      · omega
                      · right; have := HB0.out.2.2.2.2.2; omega), fun b hb => ?_⟩
                    have h9 := HV12.out.2 b hb
                    have h8 := HB0.out.2.2.2.2.1.size
                    have h7 := hk0W.size
                    exact ⟨by omega, fun h => by have := hD0.lt b h; omega⟩)
                  clear hqX hQX hcZ hkZ hbY hbE kE
                  go_wp2
                  go_still (by kernel_rfl)
                  rw [show (World.mk wr.heap wr.tape (wr.drawn + 1) wr.os wr.output) = E1 from hE1]
                  go_wp2
                  refine bodyPost_ret (v := .tuple #[.agg #[.int .i64 w1, .int .i64 h1, .slice va PL vc], .int .i64 0]) (by simp [results, Try.results28, go_sem, z0, z1, z2]) rfl ?_
                  exact HEND.out
end Go.Proofs.Ytomcjdonacckfaa.R
