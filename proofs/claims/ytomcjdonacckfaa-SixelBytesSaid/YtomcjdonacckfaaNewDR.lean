/- The document's decoder: NewD, printed by port_rdec.py from the program's side. -/
import Derived.Test.YtomcjdonacckfaaNumR
import Derived.Test.YtomcjdonacckfaaNewD
namespace Go.Proofs.Ytomcjdonacckfaa.R
open Go.Proofs.Ytomcjdonacckfaa Go.RowKit
set_option linter.unusedVariables false
set_option linter.unusedSimpArgs false
attribute [local go_sem] growOp growUpon sameUpon
theorem new_own {W : World} {a : Nat} {clear : Bool} {most : Int} {k : Nat} (h : DBlk W a (Dec.new clear most k) (.slice none 0 0) (.slice none 0 0)) : DOwn (fun i => i = a) W a (Dec.new clear most k) :=
  ⟨_, _, h, Own.nil _ _ _, Own.nil _ _ _, (by simp [Value.ownBlock]), (by simp [Value.ownBlock]), (fun b hb => by cases hb), fun i => by simp [Value.ownBlock]⟩
def zeros : Array Value := (rcells (Dec.new false 0 0) (.slice none 0 0) (.slice none 0 0)).toArray
theorem tinfo60 : (Try.prog.info? 60).map (fun i => i.zero) = some (some (.agg zeros)) := by kernel_rfl
theorem tzero60 (w : World) : (zeroValue 60).run Try.prog w = .ok (.agg zeros) w := by
  obtain ⟨i, hi, hz⟩ : ∃ i, Try.prog.info? 60 = some i ∧ i.zero = some (.agg zeros) := by
    have h := tinfo60
    cases hh : Try.prog.info? 60 with
    | none => rw [hh] at h; cases h
    | some i => rw [hh] at h; exact ⟨i, rfl, Option.some.inj h⟩
  simp [zeroValue, typeInfo, hi, hz]
theorem zsize : zeros.size = 784 := by kernel_rfl
theorem zeros_new (clear : Bool) (M : Int) : (zeros.setIfInBounds 0 (Value.bool clear)).setIfInBounds 1 (Value.int IntKind.i64 M) = (rcells (Dec.new clear M 0) (.slice none 0 0) (.slice none 0 0)).toArray := by
  unfold zeros
  unfold rcells
  rw [List.setIfInBounds_toArray, List.setIfInBounds_toArray]
  rfl
set_option maxRecDepth 100000 in
set_option maxHeartbeats 8000000 in
theorem new_any (clear : Bool) (M : Nat) (W : World) (hM : M ≤ 1060741824) :
    Calls Try.prog 23 #[.bool clear, .int .i64 M] W fun e w' => e = .returned (.tuple #[.pointer (some ⟨W.heap.size, 0, none⟩), .int .i64 0]) ∧ DOwn (fun i => i = W.heap.size) w' W.heap.size (Dec.new clear M 256) ∧ Kept (fun _ => False) W w' := by
  have g1 : decide ((1060741824 : Int) < (M : Int)) = false := decide_eq_false (by omega)
  have g2 : decide ((M : Int) < 0) = false := decide_eq_false (by omega)
  have tz := tzero60
  have zs := zsize
  go_enter Try.func23, Try.ntmps23
  go_wp2
  obtain ⟨q, hq⟩ : ∃ q, W.heap.size = q := ⟨_, rfl⟩
  rw [hq]
  clear tz zs g1 g2
  go_loopg [7] 256 (fun gg kv wr => ∃ k : Nat, 256 ≤ gg + k ∧ k ≤ 256 ∧ kv = .int .i64 (k : Int) ∧ DBlk wr q (Dec.new clear M k) (.slice none 0 0) (.slice none 0 0) ∧ Kept (fun _ => False) W wr)
  case atStart =>
    refine ⟨0, by omega, by omega, rfl, ⟨regs_length 0, ?_⟩, (Kept.refl _ _).alloc _⟩
    rw [← hq]
    refine (blk_new W _).trans ?_
    rw [zeros_new]
  case round =>
    obtain ⟨k, hgg, hk6, rfl, hb, hkw⟩ := hrel
    have HB := Lib.hid (And.intro hb hkw)
    by_cases hk : k < 256
    · have gk0 : decide (k < 256) = true := decide_eq_true hk
      have gk1 : decide ((k : Int) < 256) = true := decide_eq_true (by omega)
      have hki : (k : Int) < 256 := by omega
      have wk : IntKind.i64.wrap ((k : Int) + 1) = (k : Int) + 1 := IntWalk.i64_in _ (by omega)
      obtain ⟨r, g, b', hrgb⟩ : ∃ r g b', firstL k = [r, g, b'] := by unfold firstL; split <;> exact ⟨_, _, _, rfl⟩
      have hcol : ∀ w', Calls Try.prog 16 #[.int .i64 k] w' fun e w'' => e = .returned (tri r g b') ∧ Kept (fun _ => False) w' w'' := fun w' => by have h9 := rfirst_any (k : Int) w'; rw [first_triL, hrgb] at h9; exact h9
      have HCOL := Lib.hid (And.intro hcol hrgb)
      obtain ⟨RC, hRC⟩ : ∃ R : Value → World → Prop, R = fun v _ => v = tri r g b' := ⟨_, rfl⟩
      have HRC := Lib.hid hRC
      obtain ⟨WR, hWR⟩ : ∃ WR, WR = wr.drew := ⟨_, rfl⟩
      have HWR := Lib.hid hWR
      have HKR := Lib.hid (show Kept (fun _ => False) wr WR by rw [hWR]; exact (Kept.refl _ _).drew)
      clear hb hkw hcol hrgb hRC hWR
      go_wp2
      refine wp_region_grow #[0, 0, 0, 4, 1, 17, 63, 127] 7 [] (fun i => if i = 3 then some RC else none) (by kernel_rfl) rfl (by kernel_rfl) (fun i hi => by cases hi) (fun _ _ _ _ _ h => h) ?_
      rintro _ rfl
      rw [← HWR.out]
      simp only [List.take_succ_cons, List.take_zero, List.drop_succ_cons, List.drop_zero, number, Nat.reduceAdd]
      repeat (refine wpGrow_step (fun K hK => ?_); go_simp; refine hK _ _ ?_; clear hK K)
      refine wpGrow_step (fun K hK => ?_)
      go_simp
      refine ⟨fun w' hg => (HCOL.out.1 w').mono (fun e w'' ⟨he, hk⟩ => ⟨_, he, hk, by rw [HRC.out]⟩), fun v w' hv _ => ?_⟩
      rw [HRC.out] at hv
      subst hv
      refine hK _ _ ?_; clear hK K
      repeat (refine wpGrow_step (fun K hK => ?_); go_simp; refine hK _ _ ?_; clear hK K)
      refine wpGrow_nil ?_
      intro w3 hk3 hω
      have hd5 : DBlk w3 q (Dec.new clear M k) (.slice none 0 0) (.slice none 0 0) := HB.out.1.kept (HKR.out.then hk3) id
      have e3k : ∀ j, 2 + (3 * k + j) = 2 + k * 3 + j := fun j => by omega
      have e3z : 2 + 3 * k = 2 + k * 3 := by omega
      have r0 := hd5.reg (3 * k + 0) (by omega)
      have hd6 := hd5.setReg (3 * k + 0) (by omega) r
      have r1 := hd6.reg (3 * k + 1) (by omega)
      have hd7 := hd6.setReg (3 * k + 1) (by omega) g
      have r2 := hd7.reg (3 * k + 2) (by omega)
      have hd8 := hd7.setReg (3 * k + 2) (by omega) b'
      simp only [e3k, e3z, Nat.add_zero] at r0 r1 r2 hd8
      obtain ⟨V6, hV6⟩ : ∃ V, w3.setCell ⟨q, 2 + k * 3, none⟩ (.int .u8 r) = V := ⟨_, rfl⟩
      rw [hV6] at r1 r2 hd8
      obtain ⟨V7, hV7⟩ : ∃ V, V6.setCell ⟨q, 2 + k * 3 + 1, none⟩ (.int .u8 g) = V := ⟨_, rfl⟩
      rw [hV7] at r2 hd8
      obtain ⟨V8, hV8⟩ : ∃ V, V7.setCell ⟨q, 2 + k * 3 + 2, none⟩ (.int .u8 b') = V := ⟨_, rfl⟩
      rw [hV8] at hd8
      have kV : Kept (fun _ => False) W V8 := by
        rw [← hV8, ← hV7, ← hV6]
        exact ((HB.out.2.then (HKR.out.then hk3)).trans (((((Kept.refl (fun i => i = q) w3).setCell (p := ⟨q, 2 + k * 3, none⟩) (.inl rfl) _).setCell (p := ⟨q, 2 + k * 3 + 1, none⟩) (.inl rfl) _).setCell (p := ⟨q, 2 + k * 3 + 2, none⟩) (.inl rfl) _).mono fun i _ (hi : i = q) => Or.inr (by omega)))
      have hd9 : DBlk V8 q (Dec.new clear M (k + 1)) (.slice none 0 0) (.slice none 0 0) := by
        have h9 := hd8
        have e9 : regs (k + 1) = (((regs k).set (3 * k) r).set (3 * k + 1) g).set (3 * k + 2) b' := by show setReg (regs k) k (firstL k) = _; rw [HCOL.out.2]; rfl
        show DBlk V8 q ⟨clear, M, regs (k + 1), 0, 0, 0, 0, 0, [], false, false, false, false, 0, [], 0, 0⟩ _ _
        rw [e9]
        exact h9
      have H9 := Lib.hid (And.intro hd9 kV)
      obtain ⟨r0, r0'⟩ := r0
      obtain ⟨r1, r1'⟩ := r1
      obtain ⟨r2, r2'⟩ := r2
      clear hd5 hd6 hd7 hd8 hd9 kV hω hk3
      unfold tri
      go_wp2
      go_roundg (gk - 1)
      case rel => exact ⟨k + 1, by omega, by omega, by simp, H9.out⟩
      case measure => omega
    · obtain rfl : k = 256 := by omega
      have gk0 : decide (256 < 256) = false := by decide
      clear hb
      go_wp2
      subst hq
      refine bodyPost_ret (v := .tuple #[.pointer (some ⟨W.heap.size, 0, none⟩), .int .i64 0]) (by simp [results, Try.results23, go_sem]) rfl ?_
      exact ⟨rfl, new_own HB.out.1, HB.out.2⟩
end Go.Proofs.Ytomcjdonacckfaa.R
