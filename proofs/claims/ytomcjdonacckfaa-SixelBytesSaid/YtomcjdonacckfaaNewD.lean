/- A new decoder: New. -/
import Derived.Test.YtomcjdonacckfaaWriteD
import Derived.Test.YtomcjdonacckfaaFirst
namespace Go.Proofs.Ytomcjdonacckfaa
open Go.RowKit
set_option linter.unusedVariables false
set_option linter.unusedSimpArgs false
attribute [local go_sem] growOp growUpon sameUpon
def firstL (n : Nat) : List Int := if n < 16 then [pct (firsts.getD (3 * n) 0), pct (firsts.getD (3 * n + 1) 0), pct (firsts.getD (3 * n + 2) 0)] else [0, 0, 0]
theorem first_triL (n : Nat) : first (n : Int) = triL (firstL n) := by
  unfold first firstL
  by_cases h : n < 16
  · rw [if_pos (by omega), if_pos h, Int.toNat_natCast]; rfl
  · rw [if_neg (by omega), if_neg h]; rfl
/-- The registers when k of them are laid. -/
def regs : Nat → List Int
  | 0 => List.replicate 768 0
  | k + 1 => setReg (regs k) k (firstL k)
theorem regs_length (k : Nat) : (regs k).length = 768 := by
  induction k with
  | zero => exact List.length_replicate
  | succ k ih => rw [regs, setReg_length, ih]
def Dec.new (clear : Bool) (most : Int) (k : Nat) : Dec := ⟨clear, most, regs k, 0, 0, 0, 0, 0, [], false, false, false, false, 0, [], 0, 0⟩
theorem new_ok (clear : Bool) (M : Nat) (h : M ≤ 1073741824) : DecOk M (Dec.new clear M 256) :=
  ⟨⟨rfl, rfl, rfl, h, Nat.zero_le _, Nat.zero_le _, fun _ => rfl, fun _ => rfl⟩, ⟨Nat.zero_le _, fun i => by show 0 ≤ ([] : List Int).getD i 0 ∧ ([] : List Int).getD i 0 ≤ 65535; simp, by show (0 : Int) ≤ 0 ∧ (0 : Int) ≤ 65535; omega⟩, by show (0 : Int) ≤ 0 ∧ (0 : Int) ≤ 1048576; omega, by show (0 : Int) ≤ 0 ∧ (0 : Int) ≤ 1048576; omega, by show (0 : Int) ≤ 0 ∧ (0 : Int) < 256; omega, by show (0 : Int) ≤ 0 ∧ (0 : Int) ≤ 65535; omega, .inl rfl⟩
theorem new_own {W : World} {a : Nat} {clear : Bool} {most : Int} {k : Nat} (h : DBlk W a (Dec.new clear most k) (.slice none 0 0) (.slice none 0 0)) : DOwn (fun i => i = a) W a (Dec.new clear most k) :=
  ⟨_, _, h, Own.nil _ _ _, Own.nil _ _ _, (by simp [Value.ownBlock]), (by simp [Value.ownBlock]), (fun b hb => by cases hb), fun i => by simp [Value.ownBlock]⟩
def zeros : Array Value := ((Dec.new false 0 0).cells (.slice none 0 0) (.slice none 0 0)).toArray
theorem tinfo73 : (Try.prog.info? 73).map (fun i => i.zero) = some (some (.agg zeros)) := by kernel_rfl
theorem tzero73 (w : World) : (zeroValue 73).run Try.prog w = .ok (.agg zeros) w := by
  obtain ⟨i, hi, hz⟩ : ∃ i, Try.prog.info? 73 = some i ∧ i.zero = some (.agg zeros) := by
    have h := tinfo73
    cases hh : Try.prog.info? 73 with
    | none => rw [hh] at h; cases h
    | some i => rw [hh] at h; exact ⟨i, rfl, Option.some.inj h⟩
  simp [zeroValue, typeInfo, hi, hz]
theorem zsize : zeros.size = 784 := by kernel_rfl
theorem zeros_new (clear : Bool) (M : Int) : (zeros.setIfInBounds 0 (Value.bool clear)).setIfInBounds 1 (Value.int IntKind.i64 M) = ((Dec.new clear M 0).cells (.slice none 0 0) (.slice none 0 0)).toArray := by
  unfold zeros
  unfold Dec.cells
  rw [List.setIfInBounds_toArray, List.setIfInBounds_toArray]
  rfl
set_option maxRecDepth 100000 in
set_option maxHeartbeats 8000000 in
theorem new_any (clear : Bool) (M : Nat) (W : World) (hM : M ≤ 1073741824) :
    Calls Try.prog 17 #[.bool clear, .int .i64 M] W fun e w' => e = .returned (.tuple #[.pointer (some ⟨W.heap.size, 0, none⟩), .int .i64 0]) ∧ DOwn (fun i => i = W.heap.size) w' W.heap.size (Dec.new clear M 256) ∧ Kept (fun _ => False) W w' := by
  have g1 : decide ((1073741824 : Int) < (M : Int)) = false := decide_eq_false (by omega)
  have g2 : decide ((M : Int) < 0) = false := decide_eq_false (by omega)
  have tz := tzero73
  have zs := zsize
  go_enter Try.func17, Try.ntmps17
  go_wp2
  obtain ⟨q, hq⟩ : ∃ q, W.heap.size = q := ⟨_, rfl⟩
  rw [hq]
  clear tz zs g1 g2
  go_loopg [7, 18] 256 (fun gg _ kv wr => ∃ k : Nat, 256 ≤ gg + k ∧ k ≤ 256 ∧ kv = .int .i64 (k : Int) ∧ DBlk wr q (Dec.new clear M k) (.slice none 0 0) (.slice none 0 0) ∧ Kept (fun _ => False) W wr)
  case atStart =>
    refine ⟨0, by omega, by omega, rfl, ⟨regs_length 0, ?_⟩, (Kept.refl _ _).alloc _⟩
    rw [← hq]
    refine (blk_new W _).trans ?_
    rw [zeros_new]
  case round =>
    obtain ⟨k, hgg, hk6, rfl, hb, hkw⟩ := hrel
    have HB := Lib.hid (And.intro hb hkw)
    by_cases hk : k < 256
    · have gk0 : decide (k < 256) = true := decide_eq_true hk
      have wk : IntKind.i64.wrap ((k : Int) + 1) = (k : Int) + 1 := IntWalk.i64_in _ (by omega)
      obtain ⟨r, g, b', hrgb⟩ : ∃ r g b', firstL k = [r, g, b'] := by unfold firstL; split <;> exact ⟨_, _, _, rfl⟩
      have hcol : ∀ w', Calls Try.prog 15 #[.int .i64 k] w' fun e w'' => e = .returned (tri r g b') ∧ Kept (fun _ => False) w' w'' := fun w' => by have h9 := first_any (k : Int) w'; rw [first_triL, hrgb] at h9; exact h9
      have HCOL := Lib.hid (And.intro hcol hrgb)
      obtain ⟨RC, hRC⟩ : ∃ R : Value → World → Prop, R = fun v _ => v = tri r g b' := ⟨_, rfl⟩
      have HRC := Lib.hid hRC
      obtain ⟨WR, hWR⟩ : ∃ WR, WR = wr.drew := ⟨_, rfl⟩
      have HWR := Lib.hid hWR
      have HKR := Lib.hid (show Kept (fun _ => False) wr WR by rw [hWR]; exact (Kept.refl _ _).drew)
      clear hb hkw hcol hrgb hRC hWR
      go_wp2
      refine wp_region_grow #[0, 0, 0, 4, 1, 17, 63, 127] 7 [] (fun i => if i = 3 then some RC else none) (by kernel_rfl) rfl (by kernel_rfl) (fun i hi => by cases hi) (fun _ _ _ _ _ h => h) ?_
      rintro _ rfl
      rw [← HWR.out]
      simp only [List.take_succ_cons, List.take_zero, List.drop_succ_cons, List.drop_zero, number, Nat.reduceAdd]
      repeat (refine wpGrow_step (fun K hK => ?_); go_simp; refine hK _ _ ?_; clear hK K)
      refine wpGrow_step (fun K hK => ?_)
      go_simp
      refine ⟨fun w' hg => (HCOL.out.1 w').mono (fun e w'' ⟨he, hk⟩ => ⟨_, he, hk, by rw [HRC.out]⟩), fun v w' hv _ => ?_⟩
      rw [HRC.out] at hv
      subst hv
      refine hK _ _ ?_; clear hK K
      repeat (refine wpGrow_step (fun K hK => ?_); go_simp; refine hK _ _ ?_; clear hK K)
      refine wpGrow_nil ?_
      intro w3 hk3 hω
      have hd5 : DBlk w3 q (Dec.new clear M k) (.slice none 0 0) (.slice none 0 0) := HB.out.1.kept (HKR.out.then hk3) id
      have e3k : ∀ j, 2 + (3 * k + j) = 2 + k * 3 + j := fun j => by omega
      have e3z : 2 + 3 * k = 2 + k * 3 := by omega
      have r0 := hd5.reg (3 * k + 0) (by omega)
      have hd6 := hd5.setReg (3 * k + 0) (by omega) r
      have r1 := hd6.reg (3 * k + 1) (by omega)
      have hd7 := hd6.setReg (3 * k + 1) (by omega) g
      have r2 := hd7.reg (3 * k + 2) (by omega)
      have hd8 := hd7.setReg (3 * k + 2) (by omega) b'
      simp only [e3k, e3z, Nat.add_zero] at r0 r1 r2 hd8
      obtain ⟨V6, hV6⟩ : ∃ V, w3.setCell ⟨q, 2 + k * 3, none⟩ (.int .u8 r) = V := ⟨_, rfl⟩
      rw [hV6] at r1 r2 hd8
      obtain ⟨V7, hV7⟩ : ∃ V, V6.setCell ⟨q, 2 + k * 3 + 1, none⟩ (.int .u8 g) = V := ⟨_, rfl⟩
      rw [hV7] at r2 hd8
      obtain ⟨V8, hV8⟩ : ∃ V, V7.setCell ⟨q, 2 + k * 3 + 2, none⟩ (.int .u8 b') = V := ⟨_, rfl⟩
      rw [hV8] at hd8
      have kV : Kept (fun _ => False) W V8 := by
        rw [← hV8, ← hV7, ← hV6]
        exact ((HB.out.2.then (HKR.out.then hk3)).trans (((((Kept.refl (fun i => i = q) w3).setCell (p := ⟨q, 2 + k * 3, none⟩) (.inl rfl) _).setCell (p := ⟨q, 2 + k * 3 + 1, none⟩) (.inl rfl) _).setCell (p := ⟨q, 2 + k * 3 + 2, none⟩) (.inl rfl) _).mono fun i _ (hi : i = q) => Or.inr (by omega)))
      have hd9 : DBlk V8 q (Dec.new clear M (k + 1)) (.slice none 0 0) (.slice none 0 0) := by
        have h9 := hd8
        have e9 : regs (k + 1) = (((regs k).set (3 * k) r).set (3 * k + 1) g).set (3 * k + 2) b' := by show setReg (regs k) k (firstL k) = _; rw [HCOL.out.2]; rfl
        show DBlk V8 q ⟨clear, M, regs (k + 1), 0, 0, 0, 0, 0, [], false, false, false, false, 0, [], 0, 0⟩ _ _
        rw [e9]
        exact h9
      have H9 := Lib.hid (And.intro hd9 kV)
      obtain ⟨r0, r0'⟩ := r0
      obtain ⟨r1, r1'⟩ := r1
      obtain ⟨r2, r2'⟩ := r2
      clear hd5 hd6 hd7 hd8 hd9 kV hω hk3
      unfold tri
      go_wp2
      go_roundg (gk - 1)
      case rel => exact ⟨k + 1, by omega, by omega, by simp, H9.out⟩
      case measure => omega
    · obtain rfl : k = 256 := by omega
      have gk0 : decide (256 < 256) = false := by decide
      clear hb
      go_wp2
      subst hq
      refine bodyPost_ret (v := .tuple #[.pointer (some ⟨W.heap.size, 0, none⟩), .int .i64 0]) (by simp [results, Try.results17, go_sem]) rfl ?_
      exact ⟨rfl, new_own HB.out.1, HB.out.2⟩
end Go.Proofs.Ytomcjdonacckfaa
