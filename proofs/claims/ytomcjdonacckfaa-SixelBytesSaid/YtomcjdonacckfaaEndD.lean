/- The end: End. -/
import Derived.Test.YtomcjdonacckfaaEndP
import Derived.Test.YtomcjdonacckfaaClone
namespace Go.Proofs.Ytomcjdonacckfaa
open Go.RowKit
set_option linter.unusedVariables false
set_option linter.unusedSimpArgs false
attribute [local go_sem] growOp growUpon sameUpon
def Dec.fin1 (d : Dec) : Dec := if d.full = false ∧ d.over = false then d.done d.w.toNat d.h.toNat else d
theorem fin_eq (d : Dec) : d.fin = if d.fin1.full = true then ⟨d.fin1, 0, 0, [], 6⟩ else if d.fin1.w = 0 ∨ d.fin1.over = true then ⟨{ d.fin1 with over := true }, 0, 0, [], 7⟩
  else ⟨{ d.fin1 with over := true }, d.fin1.w, d.fin1.h, if d.fin1.clear = true then d.fin1.p else filled d.fin1.p [d.fin1.l.getD 0 0, d.fin1.l.getD 1 0, d.fin1.l.getD 2 0, 255], 0⟩ := rfl
theorem fin_full {d d1 : Dec} (h : d.fin1 = d1) (hf : d1.full = true) : d.fin = ⟨d1, 0, 0, [], 6⟩ := by
  rw [fin_eq, h, if_pos hf]
theorem fin_none {d d1 : Dec} (h : d.fin1 = d1) (hf : d1.full = false) (hw : d1.w = 0 ∨ d1.over = true) : d.fin = ⟨{ d1 with over := true }, 0, 0, [], 7⟩ := by
  rw [fin_eq, h, if_neg (by rw [hf]; decide), if_pos hw]
theorem fin_main {d d1 : Dec} (h : d.fin1 = d1) (hf : d1.full = false) (hw : d1.w ≠ 0) (ho : d1.over = false) : d.fin = ⟨{ d1 with over := true }, d1.w, d1.h, if d1.clear = true then d1.p else filled d1.p [d1.l.getD 0 0, d1.l.getD 1 0, d1.l.getD 2 0, 255], 0⟩ := by
  rw [fin_eq, h, if_neg (by rw [hf]; decide), if_neg (by rw [ho]; simp [hw])]
/-- What a call of End leaves. -/
def Ends (G : Nat → Prop) (W w' : World) (a : Nat) (E : Ended) (e : Ending) : Prop :=
  ∃ v G', e = .returned (.tuple #[.agg #[.int .i64 E.w, .int .i64 E.h, v], .int .i64 E.e]) ∧ Own .u8 5 w' v E.p ∧ DOwn G' w' a E.d ∧ (∀ i, G' i → G i ∨ W.heap.size ≤ i) ∧ Kept G W w' ∧ ∀ b, v.ownBlock = some b → W.heap.size ≤ b ∧ ¬ G' b
theorem ne_blk {e : TypeId} {k : IntKind} {w : World} {v : Value} {xs : List Int} {q : Nat} {c : Array Value} {t : TypeId} (h : Own k e w v xs) (hq : w.heap[q]? = some (.cells c t (0, 0))) (ht : t ≠ e) : v.ownBlock ≠ some q := by
  obtain ⟨-, h2⟩ := h
  rcases h2 with ⟨rfl, h0⟩ | ⟨g, cap, cur, rfl, -, hg, r⟩
  · intro h; cases h
  · intro h
    cases h
    rw [hq] at hg
    cases hg
    exact ht rfl
set_option maxRecDepth 100000 in
set_option maxHeartbeats 16000000 in
theorem end_any (G : Nat → Prop) (d : Dec) (W : World) (a M : Nat) (hd : DOwn G W a d) (hok : DecOk M d) :
    Calls Try.prog 19 #[.pointer (some ⟨a, 0, none⟩)] W fun e w' => Ends G W w' a d.fin e := by
  obtain ⟨q, hqe⟩ : ∃ q, W.heap.size = q := ⟨_, rfl⟩
  obtain ⟨Wa, hWa⟩ : ∃ Wa, W.alloc (.cells #[.int .i64 0, .int .i64 0, .slice none 0 0] 38) = Wa := ⟨_, rfl⟩
  have hka : Kept (fun _ => False) W Wa := by rw [← hWa]; exact (Kept.refl _ _).alloc _
  have hqn : ¬ G q := fun h => by have := hd.lt q h; omega
  have HE0 := Lib.hid (show ∃ G1, DOwn G1 Wa a d ∧ (∀ i, G1 i → G i ∨ W.heap.size ≤ i) ∧ Kept G W Wa ∧ ¬ G1 q ∧ Wa.heap[q]? = some (.cells #[.int .i64 0, .int .i64 0, .slice none 0 0] 38 (0, 0)) ∧ W.heap.size ≤ q from
    ⟨G, hd.kept hka (fun _ _ => id), fun _ h => .inl h, hka.mono fun _ _ h => h.elim, hqn, by rw [← hWa]; exact blk_at W _ hqe.symm, by omega⟩)
  have hsz : Wa.heap.size = q + 1 := by rw [← hWa, ← hqe]; simp
  have hda : DOwn G Wa a d := hd.kept hka (fun _ _ => id)
  obtain ⟨pv, nv, hb, -⟩ := hda
  obtain ⟨fu, hfu⟩ : ∃ b, d.full = b := ⟨_, rfl⟩
  obtain ⟨ov, hov⟩ : ∃ b, d.over = b := ⟨_, rfl⟩
  have jf : Wa.cell? ⟨a, 778, none⟩ = some (.bool fu) := by rw [← hfu]; exact hb.ffull.1
  have jo : Wa.cell? ⟨a, 779, none⟩ = some (.bool ov) := by rw [← hov]; exact hb.fover.1
  have HF := Lib.hid (And.intro hfu hov)
  have HD := Lib.hid (And.intro hd (And.intro hok (And.intro hka (And.intro hqn hsz))))
  clear hd hok hka hqn hb hfu hov hsz
  obtain ⟨w0, hw0⟩ : ∃ w0, d.w = w0 := ⟨_, rfl⟩
  have HW0 := Lib.hid hw0
  clear hw0
  cases fu with
  | true =>
    have HFIN := Lib.hid (show d.fin1 = d from by unfold Dec.fin1; rw [HF.out.1]; simp)
    have HF1 := Lib.hid HF.out.1
    clear jf jo
    go_enter Try.func19, Try.ntmps19
    have HE := HE0
    have hE := HE.out
    obtain ⟨G1, hDO, hs1, hkq, hnq, hqb, hWq⟩ := hE
    have hDO2 := hDO
    obtain ⟨pv1, nv1, hb1, -⟩ := hDO2
    have jf : Wa.cell? ⟨a, 778, none⟩ = some (.bool true) := by rw [← HF1.out]; exact hb1.ffull.1
    have jo : Wa.cell? ⟨a, 779, none⟩ = some (.bool d.over) := hb1.fover.1
    obtain ⟨V1, V2, V3, f1, f2, f3, ⟨e1, e1'⟩, ⟨e2, e2'⟩, ⟨e3, e3'⟩, hcV, hkV⟩ := store3 hqb (.int .i64 0) (.int .i64 0) (.slice none 0 0)
    obtain ⟨⟨z0, -⟩, ⟨z1, -⟩, z2, -⟩ := blk3 hcV
    have HEND := Lib.hid (show Ends G W V3 a d.fin (.returned (.tuple #[.agg #[.int .i64 0, .int .i64 0, .slice none 0 0], .int .i64 6])) from by
      rw [fin_full HFIN.out HF1.out]
      exact ⟨_, G1, rfl, Own.nil _ _ _, hDO.kept hkV (fun i hi (h : i = q) => hnq (h ▸ hi)), hs1, hkq.trans (hkV.mono fun i _ (h : i = q) => Or.inr (by omega)), fun b hb => by cases hb⟩)
    clear hDO hs1 hkq hnq hqb hWq hb1 hcV hkV
    go_wp2
    refine bodyPost_ret (v := .tuple #[.agg #[.int .i64 0, .int .i64 0, .slice none 0 0], .int .i64 6]) (by simp [results, Try.results19, go_sem, z0, z1, z2]) rfl ?_
    exact HEND.out
  | false =>
    cases ov with
    | true =>
      have HFIN := Lib.hid (show d.fin1 = d from by unfold Dec.fin1; rw [HF.out.2]; simp)
      have HF1 := Lib.hid HF.out.1
      have HO1 := Lib.hid HF.out.2
      clear jf jo
      go_enter Try.func19, Try.ntmps19
      cases hz : (w0 == (0 : Int)) with
      | true =>
        have HE := HE0
        obtain ⟨w1, rfl⟩ : ∃ w1, w1 = w0 := ⟨_, rfl⟩
        have HW1 := HW0
        have hE := HE.out
        obtain ⟨G1, hDO, hs1, hkq, hnq, hqb, hWq⟩ := hE
        have hDO2 := hDO
        obtain ⟨pv1, nv1, hb1, -, -, -, -, -, hG1⟩ := hDO2
        have jf : Wa.cell? ⟨a, 778, none⟩ = some (.bool false) := by rw [← HF1.out]; exact hb1.ffull.1
        have jo : Wa.cell? ⟨a, 779, none⟩ = some (.bool true) := by rw [← HO1.out]; exact hb1.fover.1
        have jo' := hb1.fover.2
        obtain ⟨V0, hV0⟩ : ∃ V, Wa.setCell ⟨a, 779, none⟩ (.bool true) = V := ⟨_, rfl⟩
        have hqa : q ≠ a := fun h => hnq (h ▸ (hG1 a).2 (.inl rfl))
        have hD0 : DOwn G1 V0 a { d with over := true } := by rw [← hV0]; exact hDO.set (fun _ _ h => h.sover true) rfl rfl
        have hk0 : Kept (fun i => i = a) Wa V0 := by rw [← hV0]; exact (Kept.refl (fun i => i = a) Wa).setCell (p := ⟨a, 779, none⟩) (.inl rfl) _
        have hq0 : V0.heap[q]? = _ := hk0.blk hqb hqa
        have hb0 : DBlk V0 a { d with over := true } pv1 nv1 := by rw [← hV0]; exact hb1.sover true
        have jw : V0.cell? ⟨a, 773, none⟩ = some (.int .i64 w1) := by rw [← HW1.out]; exact hb0.fw.1
        obtain ⟨V1, V2, V3, f1, f2, f3, ⟨e1, e1'⟩, ⟨e2, e2'⟩, ⟨e3, e3'⟩, hcV, hkV⟩ := store3 hq0 (.int .i64 0) (.int .i64 0) (.slice none 0 0)
        obtain ⟨⟨z0, -⟩, ⟨z1, -⟩, z2, -⟩ := blk3 hcV
        have HEND := Lib.hid (show Ends G W V3 a d.fin (.returned (.tuple #[.agg #[.int .i64 0, .int .i64 0, .slice none 0 0], .int .i64 7])) from by
          rw [fin_none HFIN.out HF1.out (.inr HO1.out)]
          refine ⟨_, G1, rfl, Own.nil _ _ _, hD0.kept hkV (fun i hi (h : i = q) => hnq (h ▸ hi)), hs1, ?_, fun b hb => by cases hb⟩
          have hGa : G1 a := (hG1 a).2 (.inl rfl)
          exact (hkq.trans (hk0.mono fun i _ (h : i = a) => by rcases hs1 a hGa with h9 | h9; exact Or.inl (h ▸ h9); exact Or.inr (h ▸ h9))).trans (hkV.mono fun i _ (h : i = q) => Or.inr (by omega)))
        clear hDO hs1 hkq hnq hqb hWq hb1 hcV hkV hD0 hk0 hq0 hb0 hG1
        go_wp2
        refine bodyPost_ret (v := .tuple #[.agg #[.int .i64 0, .int .i64 0, .slice none 0 0], .int .i64 7]) (by simp [results, Try.results19, go_sem, z0, z1, z2]) rfl ?_
        exact HEND.out
      | false =>
        have HE := HE0
        obtain ⟨w1, rfl⟩ : ∃ w1, w1 = w0 := ⟨_, rfl⟩
        have HW1 := HW0
        have hE := HE.out
        obtain ⟨G1, hDO, hs1, hkq, hnq, hqb, hWq⟩ := hE
        have hDO2 := hDO
        obtain ⟨pv1, nv1, hb1, -, -, -, -, -, hG1⟩ := hDO2
        have jf : Wa.cell? ⟨a, 778, none⟩ = some (.bool false) := by rw [← HF1.out]; exact hb1.ffull.1
        have jo : Wa.cell? ⟨a, 779, none⟩ = some (.bool true) := by rw [← HO1.out]; exact hb1.fover.1
        have jo' := hb1.fover.2
        obtain ⟨V0, hV0⟩ : ∃ V, Wa.setCell ⟨a, 779, none⟩ (.bool true) = V := ⟨_, rfl⟩
        have hqa : q ≠ a := fun h => hnq (h ▸ (hG1 a).2 (.inl rfl))
        have hD0 : DOwn G1 V0 a { d with over := true } := by rw [← hV0]; exact hDO.set (fun _ _ h => h.sover true) rfl rfl
        have hk0 : Kept (fun i => i = a) Wa V0 := by rw [← hV0]; exact (Kept.refl (fun i => i = a) Wa).setCell (p := ⟨a, 779, none⟩) (.inl rfl) _
        have hq0 : V0.heap[q]? = _ := hk0.blk hqb hqa
        have hb0 : DBlk V0 a { d with over := true } pv1 nv1 := by rw [← hV0]; exact hb1.sover true
        have jw : V0.cell? ⟨a, 773, none⟩ = some (.int .i64 w1) := by rw [← HW1.out]; exact hb0.fw.1
        obtain ⟨V1, V2, V3, f1, f2, f3, ⟨e1, e1'⟩, ⟨e2, e2'⟩, ⟨e3, e3'⟩, hcV, hkV⟩ := store3 hq0 (.int .i64 0) (.int .i64 0) (.slice none 0 0)
        obtain ⟨⟨z0, -⟩, ⟨z1, -⟩, z2, -⟩ := blk3 hcV
        have HEND := Lib.hid (show Ends G W V3 a d.fin (.returned (.tuple #[.agg #[.int .i64 0, .int .i64 0, .slice none 0 0], .int .i64 7])) from by
          rw [fin_none HFIN.out HF1.out (.inr HO1.out)]
          refine ⟨_, G1, rfl, Own.nil _ _ _, hD0.kept hkV (fun i hi (h : i = q) => hnq (h ▸ hi)), hs1, ?_, fun b hb => by cases hb⟩
          have hGa : G1 a := (hG1 a).2 (.inl rfl)
          exact (hkq.trans (hk0.mono fun i _ (h : i = a) => by rcases hs1 a hGa with h9 | h9; exact Or.inl (h ▸ h9); exact Or.inr (h ▸ h9))).trans (hkV.mono fun i _ (h : i = q) => Or.inr (by omega)))
        clear hDO hs1 hkq hnq hqb hWq hb1 hcV hkV hD0 hk0 hq0 hb0 hG1
        go_wp2
        refine bodyPost_ret (v := .tuple #[.agg #[.int .i64 0, .int .i64 0, .slice none 0 0], .int .i64 7]) (by simp [results, Try.results19, go_sem, z0, z1, z2]) rfl ?_
        exact HEND.out
    | false =>
      have HFIN := Lib.hid (show d.fin1 = d.done d.w.toNat d.h.toNat from by unfold Dec.fin1; rw [HF.out.1, HF.out.2]; simp)
      have HT := Lib.hid (done_any G d Wa a d.w.toNat d.h.toNat M (HD.out.1.kept HD.out.2.2.1 (fun _ _ => id)) HD.out.2.1.pic HF.out.1 HD.out.2.1.num HD.out.2.1.cmd)
      have HOK := Lib.hid (done_ok HD.out.2.1 HF.out.1)
      obtain ⟨D1, hD1⟩ : ∃ D, d.done d.w.toNat d.h.toNat = D := ⟨_, rfl⟩
      rw [hD1] at HFIN HT HOK
      clear hD1
      obtain ⟨fu1, hfu1⟩ : ∃ b, D1.full = b := ⟨_, rfl⟩
      obtain ⟨ov1, hov1⟩ : ∃ b, D1.over = b := ⟨_, rfl⟩
      obtain ⟨w1, hw1⟩ : ∃ b, D1.w = b := ⟨_, rfl⟩
      have HW1 := Lib.hid hw1
      have HF1 := Lib.hid hfu1
      have HO1 := Lib.hid hov1
      clear hw1 hfu1 hov1
      go_enter Try.func19, Try.ntmps19
      go_wp2_with fail
      refine HT.out.mono ?_
      rintro e wr ⟨rfl, G1, hDO, hs1, hk1⟩
      have HE := Lib.hid (show ∃ G1, DOwn G1 wr a D1 ∧ (∀ i, G1 i → G i ∨ W.heap.size ≤ i) ∧ Kept G W wr ∧ ¬ G1 q ∧ wr.heap[q]? = some (.cells #[.int .i64 0, .int .i64 0, .slice none 0 0] 38 (0, 0)) ∧ W.heap.size ≤ q from by
        have hsz := HD.out.2.2.2.2
        refine ⟨G1, hDO, fun i hi => ?_, (HD.out.2.2.1.mono fun _ _ h => h.elim).then hk1, fun h => ?_, hk1.blk (by rw [← hWa]; exact blk_at W _ hqe.symm) HD.out.2.2.2.1, by omega⟩
        · rcases hs1 i hi with h | h
          · exact .inl h
          · right; omega
        · rcases hs1 q h with h | h
          · exact HD.out.2.2.2.1 h
          · omega)
      clear hDO hs1 hk1
      cases fu1 with
      | true =>
        have hE := HE.out
        obtain ⟨G1, hDO, hs1, hkq, hnq, hqb, hWq⟩ := hE
        have hDO2 := hDO
        obtain ⟨pv1, nv1, hb1, -⟩ := hDO2
        have jf : wr.cell? ⟨a, 778, none⟩ = some (.bool true) := by rw [← HF1.out]; exact hb1.ffull.1
        have jo : wr.cell? ⟨a, 779, none⟩ = some (.bool D1.over) := hb1.fover.1
        obtain ⟨V1, V2, V3, f1, f2, f3, ⟨e1, e1'⟩, ⟨e2, e2'⟩, ⟨e3, e3'⟩, hcV, hkV⟩ := store3 hqb (.int .i64 0) (.int .i64 0) (.slice none 0 0)
        obtain ⟨⟨z0, -⟩, ⟨z1, -⟩, z2, -⟩ := blk3 hcV
        have HEND := Lib.hid (show Ends G W V3 a d.fin (.returned (.tuple #[.agg #[.int .i64 0, .int .i64 0, .slice none 0 0], .int .i64 6])) from by
          rw [fin_full HFIN.out HF1.out]
          exact ⟨_, G1, rfl, Own.nil _ _ _, hDO.kept hkV (fun i hi (h : i = q) => hnq (h ▸ hi)), hs1, hkq.trans (hkV.mono fun i _ (h : i = q) => Or.inr (by omega)), fun b hb => by cases hb⟩)
        clear hDO hs1 hkq hnq hqb hWq hb1 hcV hkV
        go_wp2
        refine bodyPost_ret (v := .tuple #[.agg #[.int .i64 0, .int .i64 0, .slice none 0 0], .int .i64 6]) (by simp [results, Try.results19, go_sem, z0, z1, z2]) rfl ?_
        exact HEND.out
      | false =>
        cases ov1 with
        | true =>
          cases hz : (w1 == (0 : Int)) with
          | true =>
            have hE := HE.out
            obtain ⟨G1, hDO, hs1, hkq, hnq, hqb, hWq⟩ := hE
            have hDO2 := hDO
            obtain ⟨pv1, nv1, hb1, -, -, -, -, -, hG1⟩ := hDO2
            have jf : wr.cell? ⟨a, 778, none⟩ = some (.bool false) := by rw [← HF1.out]; exact hb1.ffull.1
            have jo : wr.cell? ⟨a, 779, none⟩ = some (.bool true) := by rw [← HO1.out]; exact hb1.fover.1
            have jo' := hb1.fover.2
            obtain ⟨V0, hV0⟩ : ∃ V, wr.setCell ⟨a, 779, none⟩ (.bool true) = V := ⟨_, rfl⟩
            have hqa : q ≠ a := fun h => hnq (h ▸ (hG1 a).2 (.inl rfl))
            have hD0 : DOwn G1 V0 a { D1 with over := true } := by rw [← hV0]; exact hDO.set (fun _ _ h => h.sover true) rfl rfl
            have hk0 : Kept (fun i => i = a) wr V0 := by rw [← hV0]; exact (Kept.refl (fun i => i = a) wr).setCell (p := ⟨a, 779, none⟩) (.inl rfl) _
            have hq0 : V0.heap[q]? = _ := hk0.blk hqb hqa
            have hb0 : DBlk V0 a { D1 with over := true } pv1 nv1 := by rw [← hV0]; exact hb1.sover true
            have jw : V0.cell? ⟨a, 773, none⟩ = some (.int .i64 w1) := by rw [← HW1.out]; exact hb0.fw.1
            obtain ⟨V1, V2, V3, f1, f2, f3, ⟨e1, e1'⟩, ⟨e2, e2'⟩, ⟨e3, e3'⟩, hcV, hkV⟩ := store3 hq0 (.int .i64 0) (.int .i64 0) (.slice none 0 0)
            obtain ⟨⟨z0, -⟩, ⟨z1, -⟩, z2, -⟩ := blk3 hcV
            have HEND := Lib.hid (show Ends G W V3 a d.fin (.returned (.tuple #[.agg #[.int .i64 0, .int .i64 0, .slice none 0 0], .int .i64 7])) from by
              rw [fin_none HFIN.out HF1.out (.inr HO1.out)]
              refine ⟨_, G1, rfl, Own.nil _ _ _, hD0.kept hkV (fun i hi (h : i = q) => hnq (h ▸ hi)), hs1, ?_, fun b hb => by cases hb⟩
              have hGa : G1 a := (hG1 a).2 (.inl rfl)
              exact (hkq.trans (hk0.mono fun i _ (h : i = a) => by rcases hs1 a hGa with h9 | h9; exact Or.inl (h ▸ h9); exact Or.inr (h ▸ h9))).trans (hkV.mono fun i _ (h : i = q) => Or.inr (by omega)))
            clear hDO hs1 hkq hnq hqb hWq hb1 hcV hkV hD0 hk0 hq0 hb0 hG1
            go_wp2
            refine bodyPost_ret (v := .tuple #[.agg #[.int .i64 0, .int .i64 0, .slice none 0 0], .int .i64 7]) (by simp [results, Try.results19, go_sem, z0, z1, z2]) rfl ?_
            exact HEND.out
          | false =>
            have hE := HE.out
            obtain ⟨G1, hDO, hs1, hkq, hnq, hqb, hWq⟩ := hE
            have hDO2 := hDO
            obtain ⟨pv1, nv1, hb1, -, -, -, -, -, hG1⟩ := hDO2
            have jf : wr.cell? ⟨a, 778, none⟩ = some (.bool false) := by rw [← HF1.out]; exact hb1.ffull.1
            have jo : wr.cell? ⟨a, 779, none⟩ = some (.bool true) := by rw [← HO1.out]; exact hb1.fover.1
            have jo' := hb1.fover.2
            obtain ⟨V0, hV0⟩ : ∃ V, wr.setCell ⟨a, 779, none⟩ (.bool true) = V := ⟨_, rfl⟩
            have hqa : q ≠ a := fun h => hnq (h ▸ (hG1 a).2 (.inl rfl))
            have hD0 : DOwn G1 V0 a { D1 with over := true } := by rw [← hV0]; exact hDO.set (fun _ _ h => h.sover true) rfl rfl
            have hk0 : Kept (fun i => i = a) wr V0 := by rw [← hV0]; exact (Kept.refl (fun i => i = a) wr).setCell (p := ⟨a, 779, none⟩) (.inl rfl) _
            have hq0 : V0.heap[q]? = _ := hk0.blk hqb hqa
            have hb0 : DBlk V0 a { D1 with over := true } pv1 nv1 := by rw [← hV0]; exact hb1.sover true
            have jw : V0.cell? ⟨a, 773, none⟩ = some (.int .i64 w1) := by rw [← HW1.out]; exact hb0.fw.1
            obtain ⟨V1, V2, V3, f1, f2, f3, ⟨e1, e1'⟩, ⟨e2, e2'⟩, ⟨e3, e3'⟩, hcV, hkV⟩ := store3 hq0 (.int .i64 0) (.int .i64 0) (.slice none 0 0)
            obtain ⟨⟨z0, -⟩, ⟨z1, -⟩, z2, -⟩ := blk3 hcV
            have HEND := Lib.hid (show Ends G W V3 a d.fin (.returned (.tuple #[.agg #[.int .i64 0, .int .i64 0, .slice none 0 0], .int .i64 7])) from by
              rw [fin_none HFIN.out HF1.out (.inr HO1.out)]
              refine ⟨_, G1, rfl, Own.nil _ _ _, hD0.kept hkV (fun i hi (h : i = q) => hnq (h ▸ hi)), hs1, ?_, fun b hb => by cases hb⟩
              have hGa : G1 a := (hG1 a).2 (.inl rfl)
              exact (hkq.trans (hk0.mono fun i _ (h : i = a) => by rcases hs1 a hGa with h9 | h9; exact Or.inl (h ▸ h9); exact Or.inr (h ▸ h9))).trans (hkV.mono fun i _ (h : i = q) => Or.inr (by omega)))
            clear hDO hs1 hkq hnq hqb hWq hb1 hcV hkV hD0 hk0 hq0 hb0 hG1
            go_wp2
            refine bodyPost_ret (v := .tuple #[.agg #[.int .i64 0, .int .i64 0, .slice none 0 0], .int .i64 7]) (by simp [results, Try.results19, go_sem, z0, z1, z2]) rfl ?_
            exact HEND.out
        | false =>
          cases hz : (w1 == (0 : Int)) with
          | true =>
            have hE := HE.out
            obtain ⟨G1, hDO, hs1, hkq, hnq, hqb, hWq⟩ := hE
            have hDO2 := hDO
            obtain ⟨pv1, nv1, hb1, -, -, -, -, -, hG1⟩ := hDO2
            have jf : wr.cell? ⟨a, 778, none⟩ = some (.bool false) := by rw [← HF1.out]; exact hb1.ffull.1
            have jo : wr.cell? ⟨a, 779, none⟩ = some (.bool false) := by rw [← HO1.out]; exact hb1.fover.1
            have jo' := hb1.fover.2
            obtain ⟨V0, hV0⟩ : ∃ V, wr.setCell ⟨a, 779, none⟩ (.bool true) = V := ⟨_, rfl⟩
            have hqa : q ≠ a := fun h => hnq (h ▸ (hG1 a).2 (.inl rfl))
            have hD0 : DOwn G1 V0 a { D1 with over := true } := by rw [← hV0]; exact hDO.set (fun _ _ h => h.sover true) rfl rfl
            have hk0 : Kept (fun i => i = a) wr V0 := by rw [← hV0]; exact (Kept.refl (fun i => i = a) wr).setCell (p := ⟨a, 779, none⟩) (.inl rfl) _
            have hq0 : V0.heap[q]? = _ := hk0.blk hqb hqa
            have hb0 : DBlk V0 a { D1 with over := true } pv1 nv1 := by rw [← hV0]; exact hb1.sover true
            have jw : V0.cell? ⟨a, 773, none⟩ = some (.int .i64 w1) := by rw [← HW1.out]; exact hb0.fw.1
            obtain ⟨V1, V2, V3, f1, f2, f3, ⟨e1, e1'⟩, ⟨e2, e2'⟩, ⟨e3, e3'⟩, hcV, hkV⟩ := store3 hq0 (.int .i64 0) (.int .i64 0) (.slice none 0 0)
            obtain ⟨⟨z0, -⟩, ⟨z1, -⟩, z2, -⟩ := blk3 hcV
            have HEND := Lib.hid (show Ends G W V3 a d.fin (.returned (.tuple #[.agg #[.int .i64 0, .int .i64 0, .slice none 0 0], .int .i64 7])) from by
              rw [fin_none HFIN.out HF1.out (.inl (by rw [HW1.out]; simpa using hz))]
              refine ⟨_, G1, rfl, Own.nil _ _ _, hD0.kept hkV (fun i hi (h : i = q) => hnq (h ▸ hi)), hs1, ?_, fun b hb => by cases hb⟩
              have hGa : G1 a := (hG1 a).2 (.inl rfl)
              exact (hkq.trans (hk0.mono fun i _ (h : i = a) => by rcases hs1 a hGa with h9 | h9; exact Or.inl (h ▸ h9); exact Or.inr (h ▸ h9))).trans (hkV.mono fun i _ (h : i = q) => Or.inr (by omega)))
            clear hDO hs1 hkq hnq hqb hWq hb1 hcV hkV hD0 hk0 hq0 hb0 hG1
            go_wp2
            refine bodyPost_ret (v := .tuple #[.agg #[.int .i64 0, .int .i64 0, .slice none 0 0], .int .i64 7]) (by simp [results, Try.results19, go_sem, z0, z1, z2]) rfl ?_
            exact HEND.out
          | false =>
            have hE := HE.out
            obtain ⟨G1, hDO, hs1, hkq, hnq, hqb, hWq⟩ := hE
            have hDO2 := hDO
            obtain ⟨pv1, nv1, hb1, hp1, hn1, o1, o2, o3, hG1⟩ := hDO2
            have jf : wr.cell? ⟨a, 778, none⟩ = some (.bool false) := by rw [← HF1.out]; exact hb1.ffull.1
            have jo : wr.cell? ⟨a, 779, none⟩ = some (.bool false) := by rw [← HO1.out]; exact hb1.fover.1
            have jo' := hb1.fover.2
            obtain ⟨V0, hV0⟩ : ∃ V, wr.setCell ⟨a, 779, none⟩ (.bool true) = V := ⟨_, rfl⟩
            have hqa : q ≠ a := fun h => hnq (h ▸ (hG1 a).2 (.inl rfl))
            have hD0 : DOwn G1 V0 a { D1 with over := true } := by rw [← hV0]; exact hDO.set (fun _ _ h => h.sover true) rfl rfl
            have hk0 : Kept (fun i => i = a) wr V0 := by rw [← hV0]; exact (Kept.refl (fun i => i = a) wr).setCell (p := ⟨a, 779, none⟩) (.inl rfl) _
            have hq0 : V0.heap[q]? = _ := hk0.blk hqb hqa
            have hGa : G1 a := (hG1 a).2 (.inl rfl)
            have hk0W : Kept G W V0 := hkq.trans (hk0.mono fun i _ (h : i = a) => by rcases hs1 a hGa with h9 | h9; exact Or.inl (h ▸ h9); exact Or.inr (h ▸ h9))
            have hb0 : DBlk V0 a { D1 with over := true } pv1 nv1 := by rw [← hV0]; exact hb1.sover true
            have jw : V0.cell? ⟨a, 773, none⟩ = some (.int .i64 w1) := by rw [← HW1.out]; exact hb0.fw.1
            have hp0 : Own .u8 5 V0 pv1 D1.p := hp1.kept hk0 (fun b hb (h : b = a) => o1 (h ▸ hb))
            obtain ⟨sa, cap, hpv, hsl, hlc, hcm, hnil, hown⟩ := hp0.shape
            obtain ⟨WR, hWR⟩ : ∃ WR, WR = V0.drew := ⟨_, rfl⟩
            have hkR : Kept (fun _ => False) V0 WR := by rw [hWR]; exact (Kept.refl _ _).drew
            have hbR := hb0.kept hkR id
            have y0 : WR.cell? ⟨a, 773, none⟩ = some (.int .i64 w1) := by rw [← HW1.out]; exact hbR.fw.1
            obtain ⟨h1, hh1⟩ : ∃ h1, D1.h = h1 := ⟨_, rfl⟩
            have y1 : WR.cell? ⟨a, 774, none⟩ = some (.int .i64 h1) := by rw [← hh1]; exact hbR.fh.1
            obtain ⟨PL, hPL⟩ : ∃ n, D1.p.length = n := ⟨_, rfl⟩
            obtain ⟨PP, hPP⟩ : ∃ p, D1.p = p := ⟨_, rfl⟩
            rw [hPL] at hpv hsl hlc hnil
            rw [hPP] at hsl hPL hp0
            have hpl4 : PL = 4 * D1.w.toNat * D1.h.toNat := by rw [← hPL, ← hPP]; exact HOK.out.pic.p HF1.out
            have hplb : PL ≤ 1073741824 := by
              rw [hpl4, Nat.mul_assoc]
              have h9 : D1.w.toNat * D1.h.toNat ≤ 16384 * 16384 := Nat.mul_le_mul HOK.out.pic.wb HOK.out.pic.hb
              omega
            obtain ⟨NP, hNP⟩ : ∃ n, PL = 4 * n := ⟨D1.w.toNat * D1.h.toNat, by rw [hpl4, Nat.mul_assoc]⟩
            have y2 : WR.cell? ⟨a, 775, none⟩ = some (.slice sa PL cap) := by rw [← hpv]; exact hbR.fp.1
            have X0 := cell_regrown y0
            have X1 := cell_regrown y1
            have X2 := cell_regrown y2
            have hcl : ∀ w', Kept (fun _ => False) WR w' → Calls Try.prog 33 #[.slice sa PL cap] w' fun e w'' => ∃ v, e = .returned v ∧ Own .u8 5 w'' v PP ∧ Kept (fun _ => False) w' w'' ∧ ∀ b, v.ownBlock = some b → w'.heap.size ≤ b := fun w' hk => clone_any sa PL cap PP w' (hsl.kept (hkR.then hk) (fun _ _ _ _ => id)) hnil (by omega)
            obtain ⟨RC, hRC⟩ : ∃ R : Value → World → Prop, R = fun v w' => ∃ va vc, v = .slice va PL vc ∧ Own .u8 5 w' (.slice va PL vc) PP ∧ ∀ b, v.ownBlock = some b → WR.heap.size ≤ b := ⟨_, rfl⟩
            obtain ⟨RA, hRA⟩ : ∃ R : Value → World → Prop, R = fun v w' => ∃ q, v = .pointer (some ⟨q, 0, none⟩) ∧ WR.heap.size ≤ q ∧ w'.heap[q]? = some (.cells #[.int .i64 0, .int .i64 0, .slice none 0 0] 38 (0, 0)) := ⟨_, rfl⟩
            obtain ⟨c0, hc0⟩ : ∃ c, D1.l.getD 0 0 = c := ⟨_, rfl⟩
            obtain ⟨c1, hc1⟩ : ∃ c, D1.l.getD 1 0 = c := ⟨_, rfl⟩
            obtain ⟨c2, hc2⟩ : ∃ c, D1.l.getD 2 0 = c := ⟨_, rfl⟩
            have HRC := Lib.hid hRC
            have HRA := Lib.hid hRA
            have HWR := Lib.hid hWR
            have HCL := Lib.hid hcl
            have HB0 := Lib.hid (And.intro hb0 (And.intro trivial (And.intro hq0 (And.intro trivial (And.intro hkR hWq)))))
            have HG1 := Lib.hid (show ∃ G1, DOwn G1 V0 a { D1 with over := true } ∧ (∀ i, G1 i → G i ∨ W.heap.size ≤ i) ∧ ¬ G1 q ∧ Kept G W V0 from ⟨G1, hD0, hs1, hnq, hk0W⟩)
            have HCC := Lib.hid (And.intro hc0 (And.intro hc1 (And.intro hc2 (And.intro hh1 (And.intro hPP (And.intro hPL hNP))))))
            clear hDO hs1 hkq hnq hqb hWq hb1 hp1 hn1 o1 o2 o3 hG1 hqa hD0 hk0 hq0 hGa hk0W hb0 hp0 hsl hpv hnil hown hWR hkR hbR hh1 hPL hPP hpl4 hNP hcl hRC hRA hc0 hc1 hc2
            go_wp2
            refine wp_region_grow #[0, 1, 3, 7, 0, 16, 48, 112, 0, 256, 768, 1792, 3840, 8191, 0, 32767] 15 [] (fun i => if i = 12 then some RC else if i = 14 then some RA else none) (by kernel_rfl) rfl (by kernel_rfl) (fun i hi => by cases hi) (fun _ _ _ _ _ h => h) ?_
            rintro _ rfl
            rw [← HWR.out]
            simp only [List.take_succ_cons, List.take_zero, List.drop_succ_cons, List.drop_zero, number, Nat.reduceAdd]
            repeat (refine wpGrow_step (fun K hK => ?_); go_simp; refine hK _ _ ?_; clear hK K)
            refine wpGrow_step (fun K hK => ?_)
            go_simp
            refine ⟨fun w' hg => (HCL.out w' hg.old).mono (fun e w'' ⟨v, he, ho, hk, hb⟩ => ⟨_, he, hk, by rw [HRC.out]; obtain ⟨va, vc, rfl, -⟩ := ho.shape; rw [HCC.out.2.2.2.2.2.1] at ho hb ⊢; exact ⟨va, vc, rfl, ho, fun b h => Nat.le_trans hg.old.size (hb b h)⟩⟩), fun v12 w12 hv12 hg12 => ?_⟩
            rw [HRC.out] at hv12
            obtain ⟨va, vc, rfl, hv12⟩ := hv12
            have HV12 := Lib.hid hv12
            clear hv12
            refine hK _ _ ?_; clear hK K
            repeat (refine wpGrow_step (fun K hK => ?_); go_simp; refine hK _ _ ?_; clear hK K)
            refine wpGrow_step (fun K hK => ?_)
            go_simp
            refine ⟨fun w' hg => ⟨(Kept.refl _ _).alloc _, by rw [HRA.out]; exact ⟨_, rfl, hg.old.size, blk_new _ _⟩⟩, fun v14 w14 hv14 _ => ?_⟩
            rw [HRA.out] at hv14
            obtain ⟨Q, rfl, hQW, hQb⟩ := hv14
            refine hK _ _ ?_; clear hK K
            refine wpGrow_nil ?_
            intro w3 hk3 hω
            have hQ3 : w3.heap[Q]? = _ := Kept.blk (show Kept _ w14 w3 from hω 14) hQb id
            have hv3 : Own .u8 5 w3 (.slice va PL vc) PP := HV12.out.1.kept (show Kept (fun _ => False) w12 w3 from hω 12) (fun _ _ => id)
            have hvQ : (Value.slice va PL vc).ownBlock ≠ some Q := ne_blk hv3 hQ3 (by decide)
            obtain ⟨U1, U2, U3, u1, u2, u3, ⟨i1, i1'⟩, ⟨i2, i2'⟩, ⟨i3, i3'⟩, hcU, hkU⟩ := store3 hQ3 (.int .i64 w1) (.int .i64 h1) (.slice va PL vc)
            clear hω X0 X1 X2 y0 y1 y2
            have hQV : V0.heap.size ≤ Q := Nat.le_trans HB0.out.2.2.2.2.1.size hQW
            have hbU : DBlk U3 a { D1 with over := true } pv1 nv1 := (HB0.out.1.kept (HB0.out.2.2.2.2.1.then hk3) id).kept hkU (fun (h : a = Q) => by have := HB0.out.1.lt; omega)
            obtain ⟨d0, -⟩ := hbU.reg 0 (by omega)
            obtain ⟨d1', -⟩ := hbU.reg 1 (by omega)
            obtain ⟨d2, -⟩ := hbU.reg 2 (by omega)
            rw [show ({ D1 with over := true } : Dec).l = D1.l from rfl, HCC.out.1] at d0
            rw [show ({ D1 with over := true } : Dec).l = D1.l from rfl, HCC.out.2.1] at d1'
            rw [show ({ D1 with over := true } : Dec).l = D1.l from rfl, HCC.out.2.2.1] at d2
            obtain ⟨UC, hUC⟩ : ∃ UC, U3.alloc (.cells #[.int .u8 c0, .int .u8 c1, .int .u8 c2] 70) = UC := ⟨_, rfl⟩
            obtain ⟨CB, hCB⟩ : ∃ n, U3.heap.size = n := ⟨_, rfl⟩
            obtain ⟨cl, hcl⟩ : ∃ b, D1.clear = b := ⟨_, rfl⟩
            have HCLR := Lib.hid hcl
            clear hcl
            have hkC : Kept (fun _ => False) U3 UC := by rw [← hUC]; exact (Kept.refl _ _).alloc _
            have hCB1 : UC.heap[CB]? = some (.cells #[.int .u8 c0, .int .u8 c1, .int .u8 c2] 70 (0, 0)) := by rw [← hUC]; exact blk_at U3 _ hCB.symm
            have HU := Lib.hid (And.intro (hbU.kept hkC id) (And.intro ((hv3.kept hkU (fun b hb (h : b = Q) => hvQ (h ▸ hb))).kept hkC (fun _ _ => id)) (And.intro hvQ (And.intro (hkC.blk hcU id) (And.intro hkU (And.intro hk3 (And.intro hQV (And.intro hkC (And.intro hCB1 hCB)))))))))
            have hvC : (Value.slice va PL vc).ownBlock ≠ some CB := fun h => by have := HU.out.2.1; have h9 := (hv3.kept hkU (fun b hb (h : b = Q) => hvQ (h ▸ hb))).lt CB h; omega
            have HVC := Lib.hid hvC
            have hkV0C : Kept (fun b => V0.heap.size ≤ b) V0 UC := (((HB0.out.2.2.2.2.1.then hk3).mono fun _ _ h => h.elim).then (hkU.mono fun b _ (h : b = Q) => by rw [h]; exact hQV)).then (hkC.mono fun _ _ h => h.elim)
            have HKC := Lib.hid hkV0C
            clear hQ3 hv3 hvQ hcU hkU hk3 hQV hQb hQW hbU hkC hCB1 hvC hkV0C
            go_wp2
            cases cl with
            | true =>
              have cc : UC.cell? ⟨a, 0, none⟩ = some (.bool true) := by rw [← HCLR.out]; exact HU.out.1.fclear.1
              have cQ := (blk3 HU.out.2.2.2.1).2.2.1
              obtain ⟨X, hX⟩ : ∃ X, X = UC := ⟨_, rfl⟩
              have HXO := Lib.hid (show Own .u8 5 UC (.slice va PL vc) PP ∧ Kept (fun b => (Value.slice va PL vc).ownBlock = some b) UC UC from ⟨HU.out.2.1, Kept.refl _ _⟩)
              have HPF := Lib.hid (show (if D1.clear = true then D1.p else filled D1.p [D1.l.getD 0 0, D1.l.getD 1 0, D1.l.getD 2 0, 255]) = PP from by rw [HCLR.out, if_pos rfl, HCC.out.2.2.2.2.1])
              clear hX
              refine wp_loop_rounds 1 ?_
              rw [rounds_succ]
              by_cases h0 : 0 < PL
              · have g0 : decide (0 < PL) = true := decide_eq_true h0
                have g0' : decide ((0 : Int) < (PL : Int)) = true := decide_eq_true (by omega)
                have hqX : UC.heap[q]? = some (.cells #[.int .i64 0, .int .i64 0, .slice none 0 0] 38 (0, 0)) := HXO.out.2.blk (HKC.out.blk HB0.out.2.2.1 (fun (h : V0.heap.size ≤ q) => by have := lt_of_blk HB0.out.2.2.1; omega)) (fun h => by have := HV12.out.2 q h; have := lt_of_blk HB0.out.2.2.1; have := HB0.out.2.2.2.2.1.size; omega)
                have hQX := HXO.out.2.blk HU.out.2.2.2.1 HU.out.2.2.1
                obtain ⟨⟨r0, -⟩, ⟨r1, -⟩, r2, -⟩ := blk3 hQX
                obtain ⟨Z1, Z2, Z3, f1, f2, f3, ⟨e1, e1'⟩, ⟨e2, e2'⟩, ⟨e3, e3'⟩, hcZ, hkZ⟩ := store3 hqX (.int .i64 w1) (.int .i64 h1) (.slice va PL vc)
                obtain ⟨⟨z0, -⟩, ⟨z1, -⟩, z2, -⟩ := blk3 hcZ
                have HEND := Lib.hid (show Ends G W Z3 a d.fin (.returned (.tuple #[.agg #[.int .i64 w1, .int .i64 h1, .slice va PL vc], .int .i64 0])) from by
                  rw [fin_main HFIN.out HF1.out (by rw [HW1.out]; intro h; rw [h] at hz; exact absurd hz (by decide)) HO1.out, HPF.out, ← HW1.out, ← HCC.out.2.2.2.1]
                  have hkall : Kept (fun b => V0.heap.size ≤ b ∨ b = q) V0 Z3 := ((HKC.out.mono fun _ _ h => Or.inl h).then (HXO.out.2.mono fun b _ h => Or.inl (Nat.le_trans HB0.out.2.2.2.2.1.size (HV12.out.2 b h)))).then (hkZ.mono fun b _ (h : b = q) => Or.inr h)
                  obtain ⟨G1, hD0, hs1, hnq, hk0W⟩ := HG1.out
                  refine ⟨_, G1, rfl, HXO.out.1.kept hkZ (fun b hb (h : b = q) => by have := HV12.out.2 b hb; have := lt_of_blk HB0.out.2.2.1; have := HB0.out.2.2.2.2.1.size; omega), hD0.kept hkall (fun b hb h => by
                    rcases h with h | h
                    · have := hD0.lt b hb; omega
                    · exact hnq (h ▸ hb)), hs1, hk0W.trans (hkall.mono fun b hb h => by
                    rcases h with h | h
                    · omega
                    · right; have := HB0.out.2.2.2.2.2; omega), fun b hb => ?_⟩
                  have h9 := HV12.out.2 b hb
                  have h8 := HB0.out.2.2.2.2.1.size
                  have h7 := hk0W.size
                  exact ⟨by omega, fun h => by have := hD0.lt b h; omega⟩)
                clear hqX hQX hcZ hkZ
                go_wp2
                refine bodyPost_ret (v := .tuple #[.agg #[.int .i64 w1, .int .i64 h1, .slice va PL vc], .int .i64 0]) (by simp [results, Try.results19, go_sem, z0, z1, z2]) rfl ?_
                exact HEND.out
              · have g0 : decide (0 < PL) = false := decide_eq_false h0
                have g0' : decide ((0 : Int) < (PL : Int)) = false := decide_eq_false (by omega)
                have hqX : UC.heap[q]? = some (.cells #[.int .i64 0, .int .i64 0, .slice none 0 0] 38 (0, 0)) := HXO.out.2.blk (HKC.out.blk HB0.out.2.2.1 (fun (h : V0.heap.size ≤ q) => by have := lt_of_blk HB0.out.2.2.1; omega)) (fun h => by have := HV12.out.2 q h; have := lt_of_blk HB0.out.2.2.1; have := HB0.out.2.2.2.2.1.size; omega)
                have hQX := HXO.out.2.blk HU.out.2.2.2.1 HU.out.2.2.1
                obtain ⟨⟨r0, -⟩, ⟨r1, -⟩, r2, -⟩ := blk3 hQX
                obtain ⟨Z1, Z2, Z3, f1, f2, f3, ⟨e1, e1'⟩, ⟨e2, e2'⟩, ⟨e3, e3'⟩, hcZ, hkZ⟩ := store3 hqX (.int .i64 w1) (.int .i64 h1) (.slice va PL vc)
                obtain ⟨⟨z0, -⟩, ⟨z1, -⟩, z2, -⟩ := blk3 hcZ
                have HEND := Lib.hid (show Ends G W Z3 a d.fin (.returned (.tuple #[.agg #[.int .i64 w1, .int .i64 h1, .slice va PL vc], .int .i64 0])) from by
                  rw [fin_main HFIN.out HF1.out (by rw [HW1.out]; intro h; rw [h] at hz; exact absurd hz (by decide)) HO1.out, HPF.out, ← HW1.out, ← HCC.out.2.2.2.1]
                  have hkall : Kept (fun b => V0.heap.size ≤ b ∨ b = q) V0 Z3 := ((HKC.out.mono fun _ _ h => Or.inl h).then (HXO.out.2.mono fun b _ h => Or.inl (Nat.le_trans HB0.out.2.2.2.2.1.size (HV12.out.2 b h)))).then (hkZ.mono fun b _ (h : b = q) => Or.inr h)
                  obtain ⟨G1, hD0, hs1, hnq, hk0W⟩ := HG1.out
                  refine ⟨_, G1, rfl, HXO.out.1.kept hkZ (fun b hb (h : b = q) => by have := HV12.out.2 b hb; have := lt_of_blk HB0.out.2.2.1; have := HB0.out.2.2.2.2.1.size; omega), hD0.kept hkall (fun b hb h => by
                    rcases h with h | h
                    · have := hD0.lt b hb; omega
                    · exact hnq (h ▸ hb)), hs1, hk0W.trans (hkall.mono fun b hb h => by
                    rcases h with h | h
                    · omega
                    · right; have := HB0.out.2.2.2.2.2; omega), fun b hb => ?_⟩
                  have h9 := HV12.out.2 b hb
                  have h8 := HB0.out.2.2.2.2.1.size
                  have h7 := hk0W.size
                  exact ⟨by omega, fun h => by have := hD0.lt b h; omega⟩)
                clear hqX hQX hcZ hkZ
                go_wp2
                refine bodyPost_ret (v := .tuple #[.agg #[.int .i64 w1, .int .i64 h1, .slice va PL vc], .int .i64 0]) (by simp [results, Try.results19, go_sem, z0, z1, z2]) rfl ?_
                exact HEND.out
            | false =>
              go_loopg [7] NP (fun gg iv wr => ∃ k i : Nat, i = 4 * k ∧ NP ≤ gg + k ∧ k ≤ NP ∧ iv = .int .i64 (i : Int) ∧ Own .u8 5 wr (.slice va PL vc) (tab PL (fillF PP [c0, c1, c2, 255] k)) ∧ Kept (fun b => (Value.slice va PL vc).ownBlock = some b) UC wr)
              case atStart => exact ⟨0, 0, rfl, by omega, by omega, rfl, by rw [fill_start PP _ PL HCC.out.2.2.2.2.2.1]; exact HU.out.2.1, Kept.refl _ _⟩
              case round =>
                obtain ⟨k, i, hi4, hgg, hkn, rfl, ho, hk⟩ := hrel
                have HXO := Lib.hid (And.intro ho hk)
                have hbq := HU.out.1.kept hk (fun h => by have := HV12.out.2 a h; have := HB0.out.1.lt; have := HB0.out.2.2.2.2.1.size; omega)
                have cc : wr.cell? ⟨a, 0, none⟩ = some (.bool false) := by rw [← HCLR.out]; exact hbq.fclear.1
                have hQX := hk.blk HU.out.2.2.2.1 HU.out.2.2.1
                have hPL4 : PL = 4 * NP := HCC.out.2.2.2.2.2.2
                by_cases hkk : k < NP
                · have g0 : decide (i < PL) = true := decide_eq_true (by omega)
                  have hk4 : 4 * k + 4 ≤ PL := by omega
                  obtain ⟨g, cp, hv, hlc, hcm⟩ := Own.row ho (by rw [tab_length]; omega)
                  rw [tab_length] at hv hlc
                  obtain ⟨hva, -, hvc⟩ : va = some ⟨g, 0, none⟩ ∧ PL = PL ∧ vc = cp := by injection hv with h1 h2 h3; exact ⟨h1, rfl, h3⟩
                  obtain ⟨sa, sc, hsv, hsl, -⟩ := ho.shape
                  obtain ⟨y, hy⟩ : ∃ y, PP.getD (4 * k + 3) 0 = y := ⟨_, rfl⟩
                  have hcell : wr.cell? ⟨g, i + 3, none⟩ = some (.int .u8 y) := by
                    have hsa : sa = some ⟨g, 0, none⟩ := by injection hsv with h1 h2 h3; rw [← h1]; exact hva
                    rw [hsa] at hsl
                    obtain ⟨h1, h2 | ⟨b, off, hb, hc⟩⟩ := hsl
                    · rw [tab_length] at h2; omega
                    · cases hb
                      have h9 := hc (i + 3) (by rw [tab_length]; omega)
                      rw [hi4, fill_at PP [c0, c1, c2, 255] PL k hk4, hy, Nat.zero_add, ← hi4] at h9
                      exact h9
                  have cQ : wr.cell? ⟨Q, 2, none⟩ = some (.slice (some ⟨g, 0, none⟩) PL vc) := by rw [← hva]; exact (blk3 hQX).2.2.1
                  have w3a : IntKind.i64.wrap ((i : Int) + 3) = (i : Int) + 3 := IntWalk.i64_in _ (by omega)
                  have w4a : IntKind.i64.wrap ((i : Int) + 4) = (i : Int) + 4 := IntWalk.i64_in _ (by omega)
                  have n3a : ((i : Int) + 3).toNat = i + 3 := by omega
                  have b3a : (i : Int) + 3 < (PL : Int) := by omega
                  have b3b : 0 ≤ (i : Int) + 3 := by omega
                  have b3c : i + 3 < PL := by omega
                  have HI := Lib.hid (And.intro hi4 (And.intro hy (And.intro hva hk4)))
                  by_cases hy0 : y = 0
                  · subst hy0
                    obtain ⟨WQ, hWQ⟩ : ∃ WQ, WQ = wr.drew := ⟨_, rfl⟩
                    have hkQ : Kept (fun _ => False) wr WQ := by rw [hWQ]; exact (Kept.refl _ _).drew
                    have zp : WQ.cell? ⟨Q, 2, none⟩ = some (.slice (some ⟨g, 0, none⟩) PL vc) := by rw [← hva]; exact (blk3 (hkQ.blk hQX id)).2.2.1
                    obtain ⟨⟨y0, -⟩, ⟨y1, -⟩, y2, -⟩ := blk3 (hkQ.blk (hk.blk HU.out.2.2.2.2.2.2.2.2.1 HVC.out) id)
                    have X0 := cell_regrown zp
                    have X3 := cell_regrown y0
                    have X4 := cell_regrown y1
                    have X5 := cell_regrown y2
                    have q7 : (i : Int) ≤ (PL : Int) := by omega
                    have q7' : i ≤ PL := by omega
                    have q8 : ¬ vc = i := by omega
                    have hst := fill_step PP c0 c1 c2 255 PL k hk4 hy
                    rw [← hi4] at hst
                    obtain ⟨RB, hRB⟩ : ∃ R : Value → World → Prop, R = fun v w' => ∃ q, v = .slice (some ⟨q, 0, none⟩) 4 4 ∧ WQ.heap.size ≤ q ∧ w'.heap[q]? = some (.cells #[.int .u8 c0, .int .u8 c1, .int .u8 c2, .int .u8 255] 5 (0, 0)) := ⟨_, rfl⟩
                    have HRB := Lib.hid hRB
                    have HWQ := Lib.hid hWQ
                    have HST := Lib.hid (And.intro hst (And.intro hkQ (show 4 = Nat.min 4 (PL - i) ∧ i + 4 ≤ PL from ⟨(Nat.min_eq_left (by omega)).symm, by omega⟩)))
                    clear ho hk hbq hQX hv hlc hcm hva hvc hsv hsl hy hWQ hkQ hst hRB hi4 hPL4
                    go_wp2
                    refine wp_region_grow #[0, 1, 0, 7, 0, 16, 0, 64, 0, 256, 1008, 2047] 11 [] (fun i => if i = 10 then some RB else none) (by kernel_rfl) rfl (by kernel_rfl) (fun i hi => by cases hi) (fun _ _ _ _ _ h => h) ?_
                    rintro _ rfl
                    rw [← HWQ.out]
                    simp only [List.take_succ_cons, List.take_zero, List.drop_succ_cons, List.drop_zero, number, Nat.reduceAdd]
                    repeat (refine wpGrow_step (fun K hK => ?_); go_simp; refine hK _ _ ?_; clear hK K)
                    refine wpGrow_step (fun K hK => ?_)
                    go_simp
                    refine ⟨fun w' hg => ⟨(Kept.refl _ _).alloc _, by rw [HRB.out]; exact ⟨_, rfl, hg.old.size, blk_new _ _⟩⟩, fun v25 wa hv25 _ => ?_⟩
                    rw [HRB.out] at hv25
                    obtain ⟨Q2, rfl, hq2, hqb2⟩ := hv25
                    refine hK _ _ ?_; clear hK K
                    refine wpGrow_nil ?_
                    intro w12 hk3 hω
                    have hqb12 : w12.heap[Q2]? = _ := Kept.blk (show Kept _ wa w12 from hω 10) hqb2 id
                    have hown : Own .u8 5 w12 (.slice (some ⟨g, 0, none⟩) PL vc) (tab PL (fillF PP [c0, c1, c2, 255] k)) := by
                      rw [← HI.out.2.2.1]; exact (HXO.out.1.kept HST.out.2.1 (fun _ _ => id)).kept hk3 (fun _ _ => id)
                    clear hω zp y0 y1 y2 X0 X3 X4 X5
                    refine wpList_cp rfl (.tmp 86) (.tmp 93) 30 30 rfl 5 .u8 Try.underlying30 size5 g PL vc i (PL - i) (vc - i) _ rfl hown (some ⟨Q2, 0, none⟩) 4 4 [c0, c1, c2, 255] rfl (slAt_blk hqb12 rfl rfl) 4 HST.out.2.2.1 HST.out.2.2.2 ?_
                    intro w13 ho13 hk13
                    rw [show [c0, c1, c2, 255].take 4 = [c0, c1, c2, 255] from rfl, HST.out.1, ← HI.out.2.2.1] at ho13
                    have hkF : Kept (fun b => (Value.slice va PL vc).ownBlock = some b) UC w13 := (HXO.out.2.then (((HST.out.2.1.then hk3).mono fun _ _ h => h.elim))).then (hk13.mono fun b _ (h : b = g) => by rw [HI.out.2.2.1, h]; rfl)
                    have H13 := Lib.hid (And.intro ho13 hkF)
                    clear ho13 hkF hk13 hk3 hown hqb12 hqb2
                    go_wp2
                    go_roundg (gk - 1)
                    case rel => exact ⟨k + 1, i + 4, by have := HI.out.1; omega, by omega, by omega, by simp, H13.out⟩
                    case measure => omega
                  · have gy : ((y : Int) == 0) = false := by simpa using hy0
                    have HSK := Lib.hid (fill_keep PP [c0, c1, c2, 255] PL k (by rw [hy]; exact hy0))
                    clear ho hk hbq hQX hv hlc hcm hva hvc hsv hsl hy hy0 hi4 hPL4
                    go_wp2
                    go_roundg (gk - 1)
                    case rel => exact ⟨k + 1, i + 4, by have := HI.out.1; omega, by omega, by omega, by simp, by rw [← HSK.out]; exact HXO.out.1, HXO.out.2⟩
                    case measure => omega
                · have g0 : decide (i < PL) = false := decide_eq_false (by omega)
                  obtain rfl : k = NP := by omega
                  have HPF := Lib.hid (show (if D1.clear = true then D1.p else filled D1.p [D1.l.getD 0 0, D1.l.getD 1 0, D1.l.getD 2 0, 255]) = tab PL (fillF PP [c0, c1, c2, 255] k) from by
                    rw [HCLR.out, if_neg (by decide), HCC.out.1, HCC.out.2.1, HCC.out.2.2.1, HCC.out.2.2.2.2.1]
                    unfold filled
                    rw [HCC.out.2.2.2.2.2.1, show PL / 4 = k by omega])
                  have cQ := (blk3 hQX).2.2.1
                  clear ho hk hbq hQX hi4 hPL4
                  have hqX : wr.heap[q]? = some (.cells #[.int .i64 0, .int .i64 0, .slice none 0 0] 38 (0, 0)) := HXO.out.2.blk (HKC.out.blk HB0.out.2.2.1 (fun (h : V0.heap.size ≤ q) => by have := lt_of_blk HB0.out.2.2.1; omega)) (fun h => by have := HV12.out.2 q h; have := lt_of_blk HB0.out.2.2.1; have := HB0.out.2.2.2.2.1.size; omega)
                  have hQX := HXO.out.2.blk HU.out.2.2.2.1 HU.out.2.2.1
                  obtain ⟨⟨r0, -⟩, ⟨r1, -⟩, r2, -⟩ := blk3 hQX
                  obtain ⟨Z1, Z2, Z3, f1, f2, f3, ⟨e1, e1'⟩, ⟨e2, e2'⟩, ⟨e3, e3'⟩, hcZ, hkZ⟩ := store3 hqX (.int .i64 w1) (.int .i64 h1) (.slice va PL vc)
                  obtain ⟨⟨z0, -⟩, ⟨z1, -⟩, z2, -⟩ := blk3 hcZ
                  have HEND := Lib.hid (show Ends G W Z3 a d.fin (.returned (.tuple #[.agg #[.int .i64 w1, .int .i64 h1, .slice va PL vc], .int .i64 0])) from by
                    rw [fin_main HFIN.out HF1.out (by rw [HW1.out]; intro h; rw [h] at hz; exact absurd hz (by decide)) HO1.out, HPF.out, ← HW1.out, ← HCC.out.2.2.2.1]
                    have hkall : Kept (fun b => V0.heap.size ≤ b ∨ b = q) V0 Z3 := ((HKC.out.mono fun _ _ h => Or.inl h).then (HXO.out.2.mono fun b _ h => Or.inl (Nat.le_trans HB0.out.2.2.2.2.1.size (HV12.out.2 b h)))).then (hkZ.mono fun b _ (h : b = q) => Or.inr h)
                    obtain ⟨G1, hD0, hs1, hnq, hk0W⟩ := HG1.out
                    refine ⟨_, G1, rfl, HXO.out.1.kept hkZ (fun b hb (h : b = q) => by have := HV12.out.2 b hb; have := lt_of_blk HB0.out.2.2.1; have := HB0.out.2.2.2.2.1.size; omega), hD0.kept hkall (fun b hb h => by
                      rcases h with h | h
                      · have := hD0.lt b hb; omega
                      · exact hnq (h ▸ hb)), hs1, hk0W.trans (hkall.mono fun b hb h => by
                      rcases h with h | h
                      · omega
                      · right; have := HB0.out.2.2.2.2.2; omega), fun b hb => ?_⟩
                    have h9 := HV12.out.2 b hb
                    have h8 := HB0.out.2.2.2.2.1.size
                    have h7 := hk0W.size
                    exact ⟨by omega, fun h => by have := hD0.lt b h; omega⟩)
                  clear hqX hQX hcZ hkZ
                  go_wp2
                  refine bodyPost_ret (v := .tuple #[.agg #[.int .i64 w1, .int .i64 h1, .slice va PL vc], .int .i64 0]) (by simp [results, Try.results19, go_sem, z0, z1, z2]) rfl ?_
                  exact HEND.out
end Go.Proofs.Ytomcjdonacckfaa
