/- The document's decoder: Num, printed by port_rdec.py from the program's side. -/
import Derived.Test.YtomcjdonacckfaaDecR
namespace Go.Proofs.Ytomcjdonacckfaa.R
open Go.Proofs.Ytomcjdonacckfaa Go.RowKit
set_option linter.unusedVariables false
set_option linter.unusedSimpArgs false
set_option maxRecDepth 100000 in
set_option maxHeartbeats 4000000 in
theorem number_any (i : Nat) (d : Dec) (W : World) (a : Nat) (pv nv : Value) (h : DBlk W a d pv nv) (hn : Own .i64 3 W nv d.n) (hl : d.n.length ≤ 5) :
    Calls Try.prog 45 #[.pointer (some ⟨a, 0, none⟩), .int .i64 i] W fun e w' => e = .returned (.int .i64 (d.n.getD i 0)) ∧ w' = W := by
  obtain ⟨c1, -⟩ := h.fn
  obtain ⟨sa, cap, rfl, hs, -⟩ := hn.shape
  clear h hn
  by_cases hi : i < d.n.length
  · have g1 : decide (d.n.length ≤ i) = false := decide_eq_false (by omega)
    obtain ⟨-, h0 | ⟨b, off, rfl, hc⟩⟩ := hs
    · omega
    have hx := hc i hi
    obtain ⟨y, hy⟩ : ∃ y, d.n.getD i 0 = y := ⟨_, rfl⟩
    rw [hy] at hx ⊢
    clear hc
    go_enter Try.func45, Try.ntmps45
    go_wp2
    exact bodyPost_ret (v := .int .i64 y) (by simp [results, Try.results45, go_sem]) rfl ⟨rfl, rfl⟩
  · have g1 : decide (d.n.length ≤ i) = true := decide_eq_true (by omega)
    have hy : d.n.getD i 0 = 0 := by
      rw [List.getD_eq_getElem?_getD, List.getElem?_eq_none (by omega)]; rfl
    rw [hy]
    clear hs
    go_enter Try.func45, Try.ntmps45
    go_wp2
    exact bodyPost_ret (v := .int .i64 0) (by simp [results, Try.results45, go_sem]) rfl ⟨rfl, rfl⟩

theorem push_any (G : Nat → Prop) (d : Dec) (W : World) (a : Nat) (h : DOwn G W a d) (hl : d.n.length ≤ 5) :
    Calls Try.prog 43 #[.pointer (some ⟨a, 0, none⟩)] W fun e w' => e = .returned (.tuple #[]) ∧ Turn G W w' a d.push := by
  obtain ⟨pv, nv, hb, hp, hn, h1, h2, h3, hG⟩ := h
  by_cases h5 : d.n.length < 5
  · have g1 : decide (d.n.length < 5) = true := decide_eq_true h5
    have e : d.push = { d with n := d.n ++ [d.v], v := 0 } := by unfold Dec.push; rw [if_pos h5]
    rw [e]
    obtain ⟨c1, -⟩ := hb.fn
    obtain ⟨c2, -⟩ := hb.fv
    obtain ⟨sa, cap, rfl, -⟩ := hn.shape
    have hba : DBlk (W.alloc (.cells #[.int .i64 d.v] 3)) a d pv (.slice sa d.n.length cap) := hb.kept ((Kept.refl (fun _ => False) W).alloc _) id
    obtain ⟨c3, -⟩ := hba.fn
    obtain ⟨c4, -⟩ := hba.fv
    clear hba
    obtain ⟨i0, hi, hz0, hz1, hz2⟩ := info_parts tinfo3
    have HI := Lib.hid (And.intro hi (And.intro hz0 (And.intro hz1 hz2)))
    clear hi hz0 hz1 hz2
    have hs1 : SlAt .i64 ((W.alloc (.cells #[.int .i64 d.v] 3)).drew) (some ⟨W.heap.size, 0, none⟩) 1 [d.v] := slAt_blk (blk_new W (.cells #[.int .i64 d.v] 3)) rfl rfl
    have hoa : Own .i64 3 ((W.alloc (.cells #[.int .i64 d.v] 3)).drew) (.slice sa d.n.length cap) d.n := hn.kept (((Kept.refl (fun _ => False) W).alloc _).drew) (fun _ _ => id)
    have HB := Lib.hid hb
    have H2 := Lib.hid h2
    clear hb h2
    go_enter Try.func43, Try.ntmps43
    go_wp2
    go_region_law (refine step_appInts rfl (.tmp 12) (.tmp 17) 31 rfl 3 .i64 i0 (.int .i64 0) 8 Try.underlying31 HI.out.1 HI.out.2.1 HI.out.2.2.1 HI.out.2.2.2 rfl (.slice sa d.n.length cap) d.n rfl (by exact hoa) (some ⟨W.heap.size, 0, none⟩) 1 1 [d.v] rfl (fun h => by cases h) (by exact hs1) (by omega) (by simp [maxLen]; omega) ?_; intro v5 w5 ho5 hk5 hpr5; have hb5 : DBlk w5 a d pv (.slice sa d.n.length cap) := (HB.out.kept (((Kept.refl (fun _ => False) W).alloc _).drew) id).kept hk5 (fun h => H2.out h); obtain ⟨e1, e1'⟩ := hb5.fn; obtain ⟨e2, e2'⟩ := hb5.fv; have HB5 := Lib.hid hb5; clear hb5; obtain ⟨a5, cap5, rfl, -⟩ := ho5.shape; have HO5 := Lib.hid ho5; clear ho5; clear c1 c2 c3 c4)
    all_goals go_wp2
    all_goals
      go_end0
      have ht := turn_n (ns := d.n ++ [d.v]) HB.out hp h1 H2.out h3 hG (((Kept.refl (fun _ => False) W).alloc (.cells #[.int .i64 d.v] 3)).drew) HO5.out hk5 hpr5
      rw [List.length_append, List.length_singleton] at ht
      exact ⟨rfl, ht.set (fun _ _ h => h.sv 0) rfl rfl⟩
  · have g1 : decide (d.n.length < 5) = false := decide_eq_false h5
    have e : d.push = { d with v := 0 } := by unfold Dec.push; rw [if_neg h5]
    rw [e]
    obtain ⟨c1, -⟩ := hb.fn
    obtain ⟨c2, c2'⟩ := hb.fv
    obtain ⟨sa, cap, rfl, -⟩ := hn.shape
    have HD := Lib.hid (show DOwn G W a d from ⟨_, _, hb, hp, hn, h1, h2, h3, hG⟩)
    clear hb hp hn h1 h2 h3 hG
    go_enter Try.func43, Try.ntmps43
    go_wp2
    go_end0
    exact ⟨rfl, (Turn.refl HD.out).set (fun _ _ h => h.sv 0) rfl rfl⟩

end Go.Proofs.Ytomcjdonacckfaa.R
