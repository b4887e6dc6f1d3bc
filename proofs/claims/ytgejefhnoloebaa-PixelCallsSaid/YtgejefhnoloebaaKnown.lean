/- FromRGB, FromRGBA, and known: the examples of the chapter. -/
import Derived.Test.YtgejefhnoloebaaFrom
import Derived.Test.YtgejefhnoloebaaStr
namespace Go.Proofs.Ytgejefhnoloebaa
open Go.RowKit
set_option linter.unusedVariables false
/-- A matrix by its numbers: two sides, the bytes. -/
structure Mx where
  w : Int
  h : Int
  p : List Int
/-- The value v is, in w, the matrix m; its bytes lie in blocks from B on. -/
def IsMx (B : Nat) (w : World) (v : Value) (m : Mx) : Prop :=
  ∃ a n cap, v = mat m.w m.h a n cap ∧ SlAt .u8 w a n m.p ∧ n ≤ cap ∧ cap ≤ 9223372036854775807 ∧ (a = none → n = 0 ∧ cap = 0) ∧ ∀ b off, 0 < n → a = some ⟨b, off, none⟩ → B ≤ b
theorem isMx0 (B : Nat) (w : World) : IsMx B w mat0 ⟨0, 0, []⟩ := ⟨none, 0, 0, rfl, ⟨rfl, .inl rfl⟩, by omega, by omega, fun _ => ⟨rfl, rfl⟩, fun _ _ h => absurd h (by omega)⟩
theorem IsMx.of_own {B : Nat} {w : World} {W H : Int} {g n cap : Nat} {xs : List Int} (h : Own .u8 5 w (.slice (some ⟨g, 0, none⟩) n cap) xs) (hg : B ≤ g) : IsMx B w (mat W H (some ⟨g, 0, none⟩) n cap) ⟨W, H, xs⟩ := by
  have hc : cap ≤ 9223372036854775807 := by
    obtain ⟨a, c, hv, -, -, hm, -⟩ := h.shape
    cases hv; simpa [maxLen] using hm
  exact ⟨_, _, _, rfl, h.slAt, h.at.2.1, hc, (fun h => by cases h), (fun b off _ h => by cases h; exact hg)⟩
theorem IsMx.kept {B : Nat} {S : Nat → Prop} {w w' : World} {v : Value} {m : Mx} (h : IsMx B w v m) (hk : Kept S w w') (hn : ∀ b, B ≤ b → ¬ S b) : IsMx B w' v m := by
  obtain ⟨a, n, cap, h1, h2, h3, h4, h5, h6⟩ := h
  exact ⟨a, n, cap, h1, h2.kept hk (fun b off h0 h => hn b (h6 b off h0 h)), h3, h4, h5, h6⟩
/-- A matrix out of bytes, and the error's number. -/
def fromS (per w h : Int) (xs : List Int) : Mx × Int :=
  if sizeB w h = false then (⟨0, 0, []⟩, 1) else if (xs.length : Int) < per * w * h then (⟨0, 0, []⟩, 2) else if (xs.length : Int) > per * w * h then (⟨0, 0, []⟩, 5)
  else (⟨w, h, tab (4 * w * h).toNat (fromT per.toNat xs)⟩, 0)
theorem from_any (w h per : Int) (a0 : Option Addr) (len cap : Nat) (xs : List Int) (wd : World) (hp : per = 3 ∨ per = 4) (hw : -9223372036854775808 ≤ w ∧ w ≤ 9223372036854775807) (hh : -9223372036854775808 ≤ h ∧ h ≤ 9223372036854775807)
    (hx : SlAt .u8 wd a0 len xs) (hc : len ≤ cap) (hcm : cap ≤ 9223372036854775807) (hb : ∀ b off, 0 < len → a0 = some ⟨b, off, none⟩ → b < wd.heap.size) :
    Calls Try.prog 44 #[.int .i64 w, .int .i64 h, .int .i64 per, .slice a0 len cap] wd fun e w' => ∃ v, e = .returned (.tuple #[v, .int .i64 (fromS per w h xs).2]) ∧ IsMx wd.heap.size w' v (fromS per w h xs).1 ∧ Kept (fun _ => False) wd w' := by
  have hxl := hx.1
  by_cases h1 : sizeB w h = false
  · have e : fromS per w h xs = (⟨0, 0, []⟩, 1) := if_pos h1
    rw [e]
    exact (from_no w h per a0 len cap wd hw hh h1).mono fun e w' ⟨he, hk⟩ => ⟨_, he, isMx0 _ _, hk⟩
  · have h1' : sizeB w h = true := by simpa using h1
    by_cases h2 : (len : Int) = per * w * h
    · have e : fromS per w h xs = (⟨w, h, tab (4 * w * h).toNat (fromT per.toNat xs)⟩, 0) := by
        unfold fromS; rw [if_neg h1, if_neg (by omega), if_neg (by omega)]
      rw [e]
      obtain ⟨a1, a2, a3, a4, a5, a6, a7⟩ := sizeB_t h1'
      by_cases h0 : len = 0
      · have hz : w = 0 ∧ h = 0 := by
          rcases a7 with h7 | h7
          · exact h7
          · have h5 : 0 < w * h := Int.mul_pos (by omega) (by omega)
            have h6 : per * w * h = per * (w * h) := Int.mul_assoc ..
            rcases hp with rfl | rfl <;> omega
        obtain ⟨rfl, rfl⟩ := hz
        subst h0
        exact (from_zero per a0 cap wd hp).mono fun e w' ⟨g, he, hg, ho, hk⟩ => ⟨_, he, IsMx.of_own ho hg, hk⟩
      · obtain ⟨b, off, rfl, -⟩ := hx.2.resolve_left h0
        rcases hp with rfl | rfl
        · exact (from3_yes w h b off len cap xs wd h1' hx hc hcm h2 (hb b off (by omega) rfl)).mono fun e w' ⟨g, n, hn, he, hg, ho, hk⟩ => ⟨_, he, by
            have : (4 * w * h).toNat = n := by omega
            rw [this]; exact IsMx.of_own ho hg, hk⟩
        · exact (from4_yes w h b off len cap xs wd h1' hx hc hcm h2 (hb b off (by omega) rfl)).mono fun e w' ⟨g, n, hn, he, hg, ho, hk⟩ => ⟨_, he, by
            have : (4 * w * h).toNat = n := by omega
            rw [this]; exact IsMx.of_own ho hg, hk⟩
    · have e : fromS per w h xs = (⟨0, 0, []⟩, if (len : Int) < per * w * h then 2 else 5) := by
        unfold fromS; rw [if_neg h1]
        by_cases h3 : (len : Int) < per * w * h
        · rw [if_pos (by omega), if_pos h3]
        · rw [if_neg (by omega), if_pos (by omega), if_neg h3]
      rw [e]
      exact (from_bad w h per a0 len cap wd hp h1' (by omega) h2).mono fun e w' ⟨he, hk⟩ => ⟨_, he, isMx0 _ _, hk⟩
set_option maxRecDepth 100000 in
set_option maxHeartbeats 1000000 in
theorem fromRGB_any (w h : Int) (a0 : Option Addr) (len cap : Nat) (xs : List Int) (wd : World) (hw : -9223372036854775808 ≤ w ∧ w ≤ 9223372036854775807) (hh : -9223372036854775808 ≤ h ∧ h ≤ 9223372036854775807)
    (hx : SlAt .u8 wd a0 len xs) (hc : len ≤ cap) (hcm : cap ≤ 9223372036854775807) (hb : ∀ b off, 0 < len → a0 = some ⟨b, off, none⟩ → b < wd.heap.size) :
    Calls Try.prog 21 #[.int .i64 w, .int .i64 h, .slice a0 len cap] wd fun e w' => ∃ v, e = .returned (.tuple #[v, .int .i64 (fromS 3 w h xs).2]) ∧ IsMx wd.heap.size w' v (fromS 3 w h xs).1 ∧ Kept (fun _ => False) wd w' := by
  have hx' := hx.kept ((Kept.refl (fun _ => False) wd).alloc (.cells #[.int .i64 0, .int .i64 0, .slice none 0 0] 35)) (fun _ _ _ _ => id)
  go_enter Try.func21, Try.ntmps21
  go_wp2_with fail
  refine (from_any w h 3 a0 len cap xs _ (.inl rfl) hw hh hx' hc hcm (fun b off h0 h => by have := hb b off h0 h; simp; omega)).mono ?_
  rintro e w1 ⟨v, rfl, hm, hk⟩
  have hc1 := hk.blk (blk_new wd _) id
  obtain ⟨⟨c0, f0⟩, ⟨c1, f1⟩, c2, f2⟩ := blk3 hc1
  have hkk : Kept (fun _ => False) wd w1 := ((Kept.refl _ _).alloc _).then hk
  obtain ⟨a, n, cp, rfl, hm2⟩ := hm
  have HM := Lib.hid hm2
  clear hm2 hx hx'
  unfold mat
  go_wp2
  refine bodyPost_ret (v := .tuple #[mat (fromS 3 w h xs).1.w (fromS 3 w h xs).1.h a n cp, .int .i64 (fromS 3 w h xs).2]) (by simp [results, Try.results21, go_sem, mat, c0, c1, c2]) rfl ⟨_, rfl, ?_, ?_⟩
  · obtain ⟨m1, m2, m3, m4, m5⟩ := HM.out
    refine ⟨a, n, cp, rfl, m1.kept (S := fun i => i = wd.heap.size) ?_ (fun b off h0 h => ?_), m2, m3, m4, fun b off h0 h => ?_⟩
    · repeat (refine Kept.setCell ?_ (Or.inl (by rfl)) _)
      exact Kept.refl _ _
    · have := m5 b off h0 h
      simp only [World.size_alloc] at this
      show ¬ b = wd.heap.size
      omega
    · have := m5 b off h0 h
      simp only [World.size_alloc] at this
      omega
  · repeat (first | (refine Kept.alloc ?_ _) | (refine Kept.setCell ?_ (Or.inr (by exact Nat.le_refl _)) _))
    exact hkk
set_option maxRecDepth 100000 in
set_option maxHeartbeats 1000000 in
theorem fromRGBA_any (w h : Int) (a0 : Option Addr) (len cap : Nat) (xs : List Int) (wd : World) (hw : -9223372036854775808 ≤ w ∧ w ≤ 9223372036854775807) (hh : -9223372036854775808 ≤ h ∧ h ≤ 9223372036854775807)
    (hx : SlAt .u8 wd a0 len xs) (hc : len ≤ cap) (hcm : cap ≤ 9223372036854775807) (hb : ∀ b off, 0 < len → a0 = some ⟨b, off, none⟩ → b < wd.heap.size) :
    Calls Try.prog 23 #[.int .i64 w, .int .i64 h, .slice a0 len cap] wd fun e w' => ∃ v, e = .returned (.tuple #[v, .int .i64 (fromS 4 w h xs).2]) ∧ IsMx wd.heap.size w' v (fromS 4 w h xs).1 ∧ Kept (fun _ => False) wd w' := by
  have hx' := hx.kept ((Kept.refl (fun _ => False) wd).alloc (.cells #[.int .i64 0, .int .i64 0, .slice none 0 0] 35)) (fun _ _ _ _ => id)
  go_enter Try.func23, Try.ntmps23
  go_wp2_with fail
  refine (from_any w h 4 a0 len cap xs _ (.inr rfl) hw hh hx' hc hcm (fun b off h0 h => by have := hb b off h0 h; simp; omega)).mono ?_
  rintro e w1 ⟨v, rfl, hm, hk⟩
  have hc1 := hk.blk (blk_new wd _) id
  obtain ⟨⟨c0, f0⟩, ⟨c1, f1⟩, c2, f2⟩ := blk3 hc1
  have hkk : Kept (fun _ => False) wd w1 := ((Kept.refl _ _).alloc _).then hk
  obtain ⟨a, n, cp, rfl, hm2⟩ := hm
  have HM := Lib.hid hm2
  clear hm2 hx hx'
  unfold mat
  go_wp2
  refine bodyPost_ret (v := .tuple #[mat (fromS 4 w h xs).1.w (fromS 4 w h xs).1.h a n cp, .int .i64 (fromS 4 w h xs).2]) (by simp [results, Try.results23, go_sem, mat, c0, c1, c2]) rfl ⟨_, rfl, ?_, ?_⟩
  · obtain ⟨m1, m2, m3, m4, m5⟩ := HM.out
    refine ⟨a, n, cp, rfl, m1.kept (S := fun i => i = wd.heap.size) ?_ (fun b off h0 h => ?_), m2, m3, m4, fun b off h0 h => ?_⟩
    · repeat (refine Kept.setCell ?_ (Or.inl (by rfl)) _)
      exact Kept.refl _ _
    · have := m5 b off h0 h
      simp only [World.size_alloc] at this
      show ¬ b = wd.heap.size
      omega
    · have := m5 b off h0 h
      simp only [World.size_alloc] at this
      omega
  · repeat (first | (refine Kept.alloc ?_ _) | (refine Kept.setCell ?_ (Or.inr (by exact Nat.le_refl _)) _))
    exact hkk
theorem size5 {w : World} : (sizeOf 5).run Try.prog w = .ok 1 w := by kernel_rfl
theorem part5 (i : Nat) (x0 x1 x2 x3 : Value) (w : World) (hi : i < 4) : (part 5 #[x0, x1, x2, x3] i).run Try.prog w = .ok (#[x0, x1, x2, x3].getD i undef) w := by
  rcases i with _ | _ | _ | _ | i <;> first | omega | kernel_rfl
theorem eqIn4 (d t : Nat) (ht : Try.prog.underlying t = some (.array 4 5)) (a0 a1 a2 a3 b0 b1 b2 b3 : Int) (w : World) : (Op.equalIn (d + 3) t (.agg #[.int .u8 a0, .int .u8 a1, .int .u8 a2, .int .u8 a3]) (.agg #[.int .u8 b0, .int .u8 b1, .int .u8 b2, .int .u8 b3])).run Try.prog w = .ok (a0 == b0 && (a1 == b1 && (a2 == b2 && a3 == b3))) w := by
  have h5 : ∀ (n : Nat) (a b : Int) (w : World), (Op.equalIn (n + 1) 5 (.int .u8 a) (.int .u8 b)).run Try.prog w = .ok (a == b) w := fun n a b w => run_equalIn_int w n 5 .u8 .u8 a b Try.underlying5
  unfold Op.equalIn
  have hp := part5
  cases h0 : (a0 == b0) <;> cases h1 : (a1 == b1) <;> cases h2 : (a2 == b2) <;> cases h3 : (a3 == b3) <;>
  simp [run_underlying ht, List.range', hp, h5, h0, h1, h2, h3]
/-- Two colours held against one another. -/
theorem run_eqCol (t : Nat) (ht : Try.prog.underlying t = some (.array 4 5)) (a0 a1 a2 a3 b0 b1 b2 b3 : Int) (w : World) : (binOp .eql t (.agg #[.int .u8 a0, .int .u8 a1, .int .u8 a2, .int .u8 a3]) (.agg #[.int .u8 b0, .int .u8 b1, .int .u8 b2, .int .u8 b3])).run Try.prog w = .ok (.bool (a0 == b0 && (a1 == b1 && (a2 == b2 && a3 == b3)))) w := by
  rw [run_eql_struct, eqIn4 9997 t ht]; rfl
theorem run_neCol (t : Nat) (ht : Try.prog.underlying t = some (.array 4 5)) (a0 a1 a2 a3 b0 b1 b2 b3 : Int) (w : World) : (binOp .neq t (.agg #[.int .u8 a0, .int .u8 a1, .int .u8 a2, .int .u8 a3]) (.agg #[.int .u8 b0, .int .u8 b1, .int .u8 b2, .int .u8 b3])).run Try.prog w = .ok (.bool (!(a0 == b0 && (a1 == b1 && (a2 == b2 && a3 == b3))))) w := by
  rw [run_neq_struct, eqIn4 9997 t ht]; rfl
theorem kb3 : IsBytes [1, 2, 3, 255] := by unfold IsBytes; decide
set_option maxRecDepth 100000 in
set_option maxHeartbeats 1000000 in
theorem known_any (wd : World) : Calls Try.prog 10 #[] wd fun e w' => e = .returned (.bool true) ∧ Kept (fun _ => False) wd w' := by
  go_enter Try.func10, Try.ntmps10
  go_wp2_with fail
  refine (fromRGB_any 1 1 _ 3 3 [1, 2, 3] _ (by omega) (by omega) (slAt_blk (blk_new _ _) rfl rfl) (by omega) (by omega) (fun b off _ h => by cases h; simp)).mono ?_
  rintro e w1 ⟨v, he, hm, hk⟩
  have hf : fromS 3 1 1 [1, 2, 3] = (⟨1, 1, [1, 2, 3, 255]⟩, 0) := by kernel_rfl
  rw [hf] at he hm
  obtain ⟨a, n, cp, rfl, hsl, hn, hcp, hnil, hge⟩ := hm
  subst he
  simp only [World.size_alloc] at hge
  have hn4 : n = 4 := by have := hsl.1; simpa using this.symm
  subst hn4
  have hkk : Kept (fun _ => False) wd w1 := ((Kept.refl _ _).alloc _).then hk
  have HSL := Lib.hid hsl
  clear hk hsl hf
  unfold mat
  go_wp2_with fail
  have hb1 := blk_new w1 (.cells #[.int .i64 1, .int .i64 1, .slice a 4 cp] 35)
  refine (over_any 255 0 0 255 0 255 0 128 _ (by omega) (by omega) (by omega) (by omega) (by omega) (by omega) (by omega)).mono ?_
  rw [show ov 255 0 128 = 127 by decide, show ov 0 255 128 = 128 by decide, show ov 0 0 128 = 0 by decide]
  rintro e w2 ⟨rfl, hk2⟩
  unfold col
  obtain ⟨⟨c0, f0⟩, ⟨c1, f1⟩, c2, f2⟩ := blk3 (hk2.blk hb1 id)
  have hz2 := hk2.size
  simp only [World.size_alloc] at hz2
  have hz2' : w1.heap.size < w2.heap.size := hz2
  have hkk2 : Kept (fun _ => False) wd w2 := (hkk.alloc _).then hk2
  have hsl2 := ((HSL.out.kept ((Kept.refl (fun _ => False) _).alloc _) (fun _ _ _ _ => id)).kept hk2 (fun _ _ _ _ => id)).kept ((Kept.refl (fun _ => False) _).alloc (.cells #[.int .u8 127, .int .u8 128, .int .u8 0, .int .u8 255] 23)) (fun _ _ _ _ => id)
  have hcv := run_str (P := Try.prog) (dst := 9) (cap := cp) Try.underlying33 Try.underlying5 Try.underlying9 hsl2
  rw [show strOfNums [1, 2, 3, 255] = ⟨#[1, 2, 3, 255]⟩ from rfl] at hcv
  clear hb1 hk2 hsl2
  have hq1 := run_eqCol 23 Try.underlying23
  have hq2 := @run_eqGuard_agg Try.prog
  go_wp2_with fail
  refine (scaleInt 1 3 255 _ (by omega) (by omega) (by omega)).mono ?_
  rw [show scaleV 1 3 255 = 85 by decide]
  rintro e w' ⟨rfl, rfl⟩
  go_wp2_with fail
  refine (scaleU8 3 7 255 _ (by omega) (by omega) (by omega)).mono ?_
  rw [show scaleV 3 7 255 = 109 by decide]
  rintro e w' ⟨rfl, rfl⟩
  go_wp2
  go_ret
  exact ⟨rfl, hkk2.alloc _⟩
end Go.Proofs.Ytgejefhnoloebaa
