/- The document's three, fits, Write, End, Held, Decode. -/
import Derived.Test.YtgmbjebighhgkaaRef
import Derived.Laws.BitsAllLaws
namespace Go.Proofs.Ytgmbjebighhgkaa
open Go.RowKit
set_option linter.unusedVariables false
set_option linter.unusedSimpArgs false
theorem three_lit (w : World) (p q r k : Nat) (hk : k ≤ 3) : Own .u8 5 (w.alloc (.cells #[.int .u8 (p : Int), .int .u8 (q : Int), .int .u8 (r : Int)] 5)) (.slice (some ⟨w.heap.size, 0, none⟩) k 3) (ints (([p, q, r] : List Nat).take k)) := by
  refine ⟨by simp, .inr ⟨w.heap.size, 3, _, ?_, Nat.zero_le _, blk_new w _, by simp [ints]; omega, by simp [maxLen], rfl, ?_⟩⟩
  · have : k = 0 ∨ k = 1 ∨ k = 2 ∨ k = 3 := by omega
    rcases this with rfl | rfl | rfl | rfl <;> rfl
  · have : k = 0 ∨ k = 1 ∨ k = 2 ∨ k = 3 := by omega
    rcases this with rfl | rfl | rfl | rfl <;> rfl
/-- What three answers. -/
def ThreePost (x : List Nat) (w : World) (e : Ending) (w' : World) : Prop :=
  ∃ u, e = .returned (.tuple #[u, .bool (clean x)]) ∧ Own .u8 5 w' u (ints (if clean x then out x else [])) ∧ Kept (fun _ => False) w w' ∧ Fresh w u

set_option maxRecDepth 100000 in
set_option maxHeartbeats 8000000 in
theorem three_2y (p q : Nat) (sa : Option Addr) (cap : Nat) (w : World) (hp : val p < 64) (cp : p < 256) (hq : val q < 64) (cq : q < 256) (hl : 2 ≤ cap) (hs : SlAt .u8 w sa 2 (ints [p, q])) (hcl : clean [p, q] = true) :
    Calls Try.prog 24 #[.slice sa 2 cap] w (ThreePost [p, q] w) := by
  obtain ⟨b, off, rfl, hc⟩ := hs.2.resolve_left (by omega)
  have p0 : w.cell? ⟨b, off, none⟩ = some (.int .u8 (p : Int)) := hc 0 (by omega)
  have H0 := Lib.hid (fun W => value_some p cp hp W)
  have p1 : w.cell? ⟨b, off + 1, none⟩ = some (.int .u8 (q : Int)) := hc 1 (by omega)
  have H1 := Lib.hid (fun W => value_some q cq hq W)
  obtain ⟨vp, ep⟩ : ∃ v, val p = v := ⟨_, rfl⟩
  obtain ⟨vq, eq⟩ : ∃ v, val q = v := ⟨_, rfl⟩
  rw [ep] at H0 hp
  rw [eq] at H1 hq
  have z0 : IntKind.i64.wrap 0 = 0 := by decide
  have u0 : IntKind.i64.wrap (vp : Int) = (vp : Int) := IntWalk.i64_in _ (by omega)
  obtain ⟨T1, t1⟩ : ∃ T, vp * 64 = T := ⟨_, rfl⟩
  have w1 : IntKind.i64.wrap ((vp : Int) * 64) = (T1 : Int) := by rw [IntWalk.i64_in _ (by omega)]; omega
  obtain ⟨V1, g1⟩ : ∃ V, T1 + vq = V := ⟨_, rfl⟩
  have x1 : IntKind.i64.wrap ((T1 : Int) + (vq : Int)) = (V1 : Int) := by rw [IntWalk.i64_in _ (by omega)]; omega
  obtain ⟨T2, t2⟩ : ∃ T, V1 * 64 = T := ⟨_, rfl⟩
  have w2 : IntKind.i64.wrap ((V1 : Int) * 64) = (T2 : Int) := by rw [IntWalk.i64_in _ (by omega)]; omega
  obtain ⟨T3, t3⟩ : ∃ T, T2 * 64 = T := ⟨_, rfl⟩
  have w3 : IntKind.i64.wrap ((T2 : Int) * 64) = (T3 : Int) := by rw [IntWalk.i64_in _ (by omega)]; omega
  have hV : num [p, q] * 64 ^ (4 - 2) = T3 := by rw [num2]; simp only [ep, eq]; omega
  have hVlt : T3 < 16777216 := by omega
  obtain ⟨A, hA⟩ : ∃ A, T3 / 65536 % 256 = A := ⟨_, rfl⟩
  obtain ⟨B, hB⟩ : ∃ A, T3 / 256 % 256 = A := ⟨_, rfl⟩
  obtain ⟨C, hC⟩ : ∃ A, T3 % 256 = A := ⟨_, rfl⟩
  have y1 : IntKind.u8.wrap ((T3 : Int) / 65536) = (A : Int) := by rw [IntKind.wrap_u8]; omega
  have y2 : IntKind.u8.wrap ((T3 : Int) / 256) = (B : Int) := by rw [IntKind.wrap_u8]; omega
  have y3 : IntKind.u8.wrap (T3 : Int) = (C : Int) := by rw [IntKind.wrap_u8]; omega
  have hout : out [p, q] = ([A, B, C] : List Nat).take 1 := by
    have : out [p, q] = (oct (num [p, q] * 64 ^ (4 - 2))).take 1 := by simp [out]
    rw [this, hV]; simp only [oct, hA, hB, hC]
  have hcl2 := hcl
  rw [clean_eq] at hcl2
  have hmod : num [p, q] % 16 = 0 := by simpa using hcl2
  rw [num2] at hmod
  simp only [ep, eq] at hmod
  have k1 : B = 0 := by omega
  have k2 : C = 0 := by omega
  have HP := Lib.hid (three_lit w A B C 1 (by omega))
  have HK := Lib.hid ((Kept.refl (fun _ => False) w).alloc (.cells #[.int .u8 (A : Int), .int .u8 (B : Int), .int .u8 (C : Int)] 5))
  have HT := Lib.hid (And.intro hout hcl)
  have q1 : ((B : Int) != 0) = false := by simp; omega
  have q2 : ((C : Int) != 0) = false := by simp; omega
  have L1 : IntKind.i64.wrap 1 = 1 := by decide
  have L2 : IntKind.i64.wrap 2 = 2 := by decide
  have L3 : IntKind.i64.wrap 3 = 3 := by decide
  have L4 : IntKind.i64.wrap 4 = 4 := by decide
  clear hs hc hout hcl hV hVlt hA hB hC hcl2 hmod t1 t2 t3 g1 ep eq k1 k2
  go_enter Try.func24, Try.ntmps24
  go_wp2
  refine wp_loop_rounds 5 ?_
  rw [rounds_succ]
  go_wp2_with fail
  refine (H0.out _).mono ?_
  rintro e w' ⟨rfl, rfl⟩
  go_wp2
  rw [rounds_succ]
  go_wp2_with fail
  refine (H1.out _).mono ?_
  rintro e w' ⟨rfl, rfl⟩
  go_wp2
  rw [rounds_succ]
  go_wp2
  rw [rounds_succ]
  go_wp2
  rw [rounds_succ]
  go_wp2
  refine wp_loop_rounds 4 ?_
  rw [rounds_succ]
  go_wp2
  rw [rounds_succ]
  go_wp2
  rw [rounds_succ]
  go_wp2
  refine bodyPost_ret (v := .tuple #[.slice (some ⟨w'.heap.size, 0, none⟩) 1 3, .bool true]) (by simp [results, Try.results24, go_sem]) rfl ?_
  unfold ThreePost
  rw [HT.out.2, if_pos rfl, HT.out.1]
  exact ⟨_, rfl, HP.out, HK.out, .inr ⟨_, rfl, Nat.le_refl _⟩⟩

set_option maxRecDepth 100000 in
set_option maxHeartbeats 8000000 in
theorem three_2n (p q : Nat) (sa : Option Addr) (cap : Nat) (w : World) (hp : val p < 64) (cp : p < 256) (hq : val q < 64) (cq : q < 256) (hl : 2 ≤ cap) (hs : SlAt .u8 w sa 2 (ints [p, q])) (hcl : clean [p, q] = false) :
    Calls Try.prog 24 #[.slice sa 2 cap] w (ThreePost [p, q] w) := by
  obtain ⟨b, off, rfl, hc⟩ := hs.2.resolve_left (by omega)
  have p0 : w.cell? ⟨b, off, none⟩ = some (.int .u8 (p : Int)) := hc 0 (by omega)
  have H0 := Lib.hid (fun W => value_some p cp hp W)
  have p1 : w.cell? ⟨b, off + 1, none⟩ = some (.int .u8 (q : Int)) := hc 1 (by omega)
  have H1 := Lib.hid (fun W => value_some q cq hq W)
  obtain ⟨vp, ep⟩ : ∃ v, val p = v := ⟨_, rfl⟩
  obtain ⟨vq, eq⟩ : ∃ v, val q = v := ⟨_, rfl⟩
  rw [ep] at H0 hp
  rw [eq] at H1 hq
  have z0 : IntKind.i64.wrap 0 = 0 := by decide
  have u0 : IntKind.i64.wrap (vp : Int) = (vp : Int) := IntWalk.i64_in _ (by omega)
  obtain ⟨T1, t1⟩ : ∃ T, vp * 64 = T := ⟨_, rfl⟩
  have w1 : IntKind.i64.wrap ((vp : Int) * 64) = (T1 : Int) := by rw [IntWalk.i64_in _ (by omega)]; omega
  obtain ⟨V1, g1⟩ : ∃ V, T1 + vq = V := ⟨_, rfl⟩
  have x1 : IntKind.i64.wrap ((T1 : Int) + (vq : Int)) = (V1 : Int) := by rw [IntWalk.i64_in _ (by omega)]; omega
  obtain ⟨T2, t2⟩ : ∃ T, V1 * 64 = T := ⟨_, rfl⟩
  have w2 : IntKind.i64.wrap ((V1 : Int) * 64) = (T2 : Int) := by rw [IntWalk.i64_in _ (by omega)]; omega
  obtain ⟨T3, t3⟩ : ∃ T, T2 * 64 = T := ⟨_, rfl⟩
  have w3 : IntKind.i64.wrap ((T2 : Int) * 64) = (T3 : Int) := by rw [IntWalk.i64_in _ (by omega)]; omega
  have hV : num [p, q] * 64 ^ (4 - 2) = T3 := by rw [num2]; simp only [ep, eq]; omega
  have hVlt : T3 < 16777216 := by omega
  obtain ⟨A, hA⟩ : ∃ A, T3 / 65536 % 256 = A := ⟨_, rfl⟩
  obtain ⟨B, hB⟩ : ∃ A, T3 / 256 % 256 = A := ⟨_, rfl⟩
  obtain ⟨C, hC⟩ : ∃ A, T3 % 256 = A := ⟨_, rfl⟩
  have y1 : IntKind.u8.wrap ((T3 : Int) / 65536) = (A : Int) := by rw [IntKind.wrap_u8]; omega
  have y2 : IntKind.u8.wrap ((T3 : Int) / 256) = (B : Int) := by rw [IntKind.wrap_u8]; omega
  have y3 : IntKind.u8.wrap (T3 : Int) = (C : Int) := by rw [IntKind.wrap_u8]; omega
  have hout : out [p, q] = ([A, B, C] : List Nat).take 1 := by
    have : out [p, q] = (oct (num [p, q] * 64 ^ (4 - 2))).take 1 := by simp [out]
    rw [this, hV]; simp only [oct, hA, hB, hC]
  have hcl2 := hcl
  rw [clean_eq] at hcl2
  have hmod : num [p, q] % 16 ≠ 0 := by simpa using hcl2
  rw [num2] at hmod
  simp only [ep, eq] at hmod
  have k1 : B ≠ 0 := by omega
  have HP := Lib.hid (three_lit w A B C 1 (by omega))
  have HK := Lib.hid ((Kept.refl (fun _ => False) w).alloc (.cells #[.int .u8 (A : Int), .int .u8 (B : Int), .int .u8 (C : Int)] 5))
  have HT := Lib.hid (And.intro hout hcl)
  have q1 : ((B : Int) != 0) = true := by simp; omega
  have L1 : IntKind.i64.wrap 1 = 1 := by decide
  have L2 : IntKind.i64.wrap 2 = 2 := by decide
  have L3 : IntKind.i64.wrap 3 = 3 := by decide
  have L4 : IntKind.i64.wrap 4 = 4 := by decide
  clear hs hc hout hcl hV hVlt hA hB hC hcl2 hmod t1 t2 t3 g1 ep eq k1
  go_enter Try.func24, Try.ntmps24
  go_wp2
  refine wp_loop_rounds 5 ?_
  rw [rounds_succ]
  go_wp2_with fail
  refine (H0.out _).mono ?_
  rintro e w' ⟨rfl, rfl⟩
  go_wp2
  rw [rounds_succ]
  go_wp2_with fail
  refine (H1.out _).mono ?_
  rintro e w' ⟨rfl, rfl⟩
  go_wp2
  rw [rounds_succ]
  go_wp2
  rw [rounds_succ]
  go_wp2
  rw [rounds_succ]
  go_wp2
  refine wp_loop_rounds 4 ?_
  rw [rounds_succ]
  go_wp2
  refine bodyPost_ret (v := .tuple #[.slice none 0 0, .bool false]) (by simp [results, Try.results24, go_sem]) rfl ?_
  unfold ThreePost
  rw [HT.out.2]
  exact ⟨_, rfl, Own.nil _ _ _, HK.out, .inl rfl⟩

set_option maxRecDepth 100000 in
set_option maxHeartbeats 8000000 in
theorem three_3y (p q r : Nat) (sa : Option Addr) (cap : Nat) (w : World) (hp : val p < 64) (cp : p < 256) (hq : val q < 64) (cq : q < 256) (hr : val r < 64) (cr : r < 256) (hl : 3 ≤ cap) (hs : SlAt .u8 w sa 3 (ints [p, q, r])) (hcl : clean [p, q, r] = true) :
    Calls Try.prog 24 #[.slice sa 3 cap] w (ThreePost [p, q, r] w) := by
  obtain ⟨b, off, rfl, hc⟩ := hs.2.resolve_left (by omega)
  have p0 : w.cell? ⟨b, off, none⟩ = some (.int .u8 (p : Int)) := hc 0 (by omega)
  have H0 := Lib.hid (fun W => value_some p cp hp W)
  have p1 : w.cell? ⟨b, off + 1, none⟩ = some (.int .u8 (q : Int)) := hc 1 (by omega)
  have H1 := Lib.hid (fun W => value_some q cq hq W)
  have p2 : w.cell? ⟨b, off + 2, none⟩ = some (.int .u8 (r : Int)) := hc 2 (by omega)
  have H2 := Lib.hid (fun W => value_some r cr hr W)
  obtain ⟨vp, ep⟩ : ∃ v, val p = v := ⟨_, rfl⟩
  obtain ⟨vq, eq⟩ : ∃ v, val q = v := ⟨_, rfl⟩
  obtain ⟨vr, er⟩ : ∃ v, val r = v := ⟨_, rfl⟩
  rw [ep] at H0 hp
  rw [eq] at H1 hq
  rw [er] at H2 hr
  have z0 : IntKind.i64.wrap 0 = 0 := by decide
  have u0 : IntKind.i64.wrap (vp : Int) = (vp : Int) := IntWalk.i64_in _ (by omega)
  obtain ⟨T1, t1⟩ : ∃ T, vp * 64 = T := ⟨_, rfl⟩
  have w1 : IntKind.i64.wrap ((vp : Int) * 64) = (T1 : Int) := by rw [IntWalk.i64_in _ (by omega)]; omega
  obtain ⟨V1, g1⟩ : ∃ V, T1 + vq = V := ⟨_, rfl⟩
  have x1 : IntKind.i64.wrap ((T1 : Int) + (vq : Int)) = (V1 : Int) := by rw [IntWalk.i64_in _ (by omega)]; omega
  obtain ⟨T2, t2⟩ : ∃ T, V1 * 64 = T := ⟨_, rfl⟩
  have w2 : IntKind.i64.wrap ((V1 : Int) * 64) = (T2 : Int) := by rw [IntWalk.i64_in _ (by omega)]; omega
  obtain ⟨V2, g2⟩ : ∃ V, T2 + vr = V := ⟨_, rfl⟩
  have x2 : IntKind.i64.wrap ((T2 : Int) + (vr : Int)) = (V2 : Int) := by rw [IntWalk.i64_in _ (by omega)]; omega
  obtain ⟨T3, t3⟩ : ∃ T, V2 * 64 = T := ⟨_, rfl⟩
  have w3 : IntKind.i64.wrap ((V2 : Int) * 64) = (T3 : Int) := by rw [IntWalk.i64_in _ (by omega)]; omega
  have hV : num [p, q, r] * 64 ^ (4 - 3) = T3 := by rw [num3]; simp only [ep, eq, er]; omega
  have hVlt : T3 < 16777216 := by omega
  obtain ⟨A, hA⟩ : ∃ A, T3 / 65536 % 256 = A := ⟨_, rfl⟩
  obtain ⟨B, hB⟩ : ∃ A, T3 / 256 % 256 = A := ⟨_, rfl⟩
  obtain ⟨C, hC⟩ : ∃ A, T3 % 256 = A := ⟨_, rfl⟩
  have y1 : IntKind.u8.wrap ((T3 : Int) / 65536) = (A : Int) := by rw [IntKind.wrap_u8]; omega
  have y2 : IntKind.u8.wrap ((T3 : Int) / 256) = (B : Int) := by rw [IntKind.wrap_u8]; omega
  have y3 : IntKind.u8.wrap (T3 : Int) = (C : Int) := by rw [IntKind.wrap_u8]; omega
  have hout : out [p, q, r] = ([A, B, C] : List Nat).take 2 := by
    have : out [p, q, r] = (oct (num [p, q, r] * 64 ^ (4 - 3))).take 2 := by simp [out]
    rw [this, hV]; simp only [oct, hA, hB, hC]
  have hcl2 := hcl
  rw [clean_eq] at hcl2
  have hmod : num [p, q, r] % 4 = 0 := by simpa using hcl2
  rw [num3] at hmod
  simp only [ep, eq, er] at hmod
  have k2 : C = 0 := by omega
  have HP := Lib.hid (three_lit w A B C 2 (by omega))
  have HK := Lib.hid ((Kept.refl (fun _ => False) w).alloc (.cells #[.int .u8 (A : Int), .int .u8 (B : Int), .int .u8 (C : Int)] 5))
  have HT := Lib.hid (And.intro hout hcl)
  have q2 : ((C : Int) != 0) = false := by simp; omega
  have L1 : IntKind.i64.wrap 1 = 1 := by decide
  have L2 : IntKind.i64.wrap 2 = 2 := by decide
  have L3 : IntKind.i64.wrap 3 = 3 := by decide
  have L4 : IntKind.i64.wrap 4 = 4 := by decide
  clear hs hc hout hcl hV hVlt hA hB hC hcl2 hmod t1 t2 t3 g1 g2 ep eq er k2
  go_enter Try.func24, Try.ntmps24
  go_wp2
  refine wp_loop_rounds 5 ?_
  rw [rounds_succ]
  go_wp2_with fail
  refine (H0.out _).mono ?_
  rintro e w' ⟨rfl, rfl⟩
  go_wp2
  rw [rounds_succ]
  go_wp2_with fail
  refine (H1.out _).mono ?_
  rintro e w' ⟨rfl, rfl⟩
  go_wp2
  rw [rounds_succ]
  go_wp2_with fail
  refine (H2.out _).mono ?_
  rintro e w' ⟨rfl, rfl⟩
  go_wp2
  rw [rounds_succ]
  go_wp2
  rw [rounds_succ]
  go_wp2
  refine wp_loop_rounds 4 ?_
  rw [rounds_succ]
  go_wp2
  rw [rounds_succ]
  go_wp2
  refine bodyPost_ret (v := .tuple #[.slice (some ⟨w'.heap.size, 0, none⟩) 2 3, .bool true]) (by simp [results, Try.results24, go_sem]) rfl ?_
  unfold ThreePost
  rw [HT.out.2, if_pos rfl, HT.out.1]
  exact ⟨_, rfl, HP.out, HK.out, .inr ⟨_, rfl, Nat.le_refl _⟩⟩

set_option maxRecDepth 100000 in
set_option maxHeartbeats 8000000 in
theorem three_3n (p q r : Nat) (sa : Option Addr) (cap : Nat) (w : World) (hp : val p < 64) (cp : p < 256) (hq : val q < 64) (cq : q < 256) (hr : val r < 64) (cr : r < 256) (hl : 3 ≤ cap) (hs : SlAt .u8 w sa 3 (ints [p, q, r])) (hcl : clean [p, q, r] = false) :
    Calls Try.prog 24 #[.slice sa 3 cap] w (ThreePost [p, q, r] w) := by
  obtain ⟨b, off, rfl, hc⟩ := hs.2.resolve_left (by omega)
  have p0 : w.cell? ⟨b, off, none⟩ = some (.int .u8 (p : Int)) := hc 0 (by omega)
  have H0 := Lib.hid (fun W => value_some p cp hp W)
  have p1 : w.cell? ⟨b, off + 1, none⟩ = some (.int .u8 (q : Int)) := hc 1 (by omega)
  have H1 := Lib.hid (fun W => value_some q cq hq W)
  have p2 : w.cell? ⟨b, off + 2, none⟩ = some (.int .u8 (r : Int)) := hc 2 (by omega)
  have H2 := Lib.hid (fun W => value_some r cr hr W)
  obtain ⟨vp, ep⟩ : ∃ v, val p = v := ⟨_, rfl⟩
  obtain ⟨vq, eq⟩ : ∃ v, val q = v := ⟨_, rfl⟩
  obtain ⟨vr, er⟩ : ∃ v, val r = v := ⟨_, rfl⟩
  rw [ep] at H0 hp
  rw [eq] at H1 hq
  rw [er] at H2 hr
  have z0 : IntKind.i64.wrap 0 = 0 := by decide
  have u0 : IntKind.i64.wrap (vp : Int) = (vp : Int) := IntWalk.i64_in _ (by omega)
  obtain ⟨T1, t1⟩ : ∃ T, vp * 64 = T := ⟨_, rfl⟩
  have w1 : IntKind.i64.wrap ((vp : Int) * 64) = (T1 : Int) := by rw [IntWalk.i64_in _ (by omega)]; omega
  obtain ⟨V1, g1⟩ : ∃ V, T1 + vq = V := ⟨_, rfl⟩
  have x1 : IntKind.i64.wrap ((T1 : Int) + (vq : Int)) = (V1 : Int) := by rw [IntWalk.i64_in _ (by omega)]; omega
  obtain ⟨T2, t2⟩ : ∃ T, V1 * 64 = T := ⟨_, rfl⟩
  have w2 : IntKind.i64.wrap ((V1 : Int) * 64) = (T2 : Int) := by rw [IntWalk.i64_in _ (by omega)]; omega
  obtain ⟨V2, g2⟩ : ∃ V, T2 + vr = V := ⟨_, rfl⟩
  have x2 : IntKind.i64.wrap ((T2 : Int) + (vr : Int)) = (V2 : Int) := by rw [IntWalk.i64_in _ (by omega)]; omega
  obtain ⟨T3, t3⟩ : ∃ T, V2 * 64 = T := ⟨_, rfl⟩
  have w3 : IntKind.i64.wrap ((V2 : Int) * 64) = (T3 : Int) := by rw [IntWalk.i64_in _ (by omega)]; omega
  have hV : num [p, q, r] * 64 ^ (4 - 3) = T3 := by rw [num3]; simp only [ep, eq, er]; omega
  have hVlt : T3 < 16777216 := by omega
  obtain ⟨A, hA⟩ : ∃ A, T3 / 65536 % 256 = A := ⟨_, rfl⟩
  obtain ⟨B, hB⟩ : ∃ A, T3 / 256 % 256 = A := ⟨_, rfl⟩
  obtain ⟨C, hC⟩ : ∃ A, T3 % 256 = A := ⟨_, rfl⟩
  have y1 : IntKind.u8.wrap ((T3 : Int) / 65536) = (A : Int) := by rw [IntKind.wrap_u8]; omega
  have y2 : IntKind.u8.wrap ((T3 : Int) / 256) = (B : Int) := by rw [IntKind.wrap_u8]; omega
  have y3 : IntKind.u8.wrap (T3 : Int) = (C : Int) := by rw [IntKind.wrap_u8]; omega
  have hout : out [p, q, r] = ([A, B, C] : List Nat).take 2 := by
    have : out [p, q, r] = (oct (num [p, q, r] * 64 ^ (4 - 3))).take 2 := by simp [out]
    rw [this, hV]; simp only [oct, hA, hB, hC]
  have hcl2 := hcl
  rw [clean_eq] at hcl2
  have hmod : num [p, q, r] % 4 ≠ 0 := by simpa using hcl2
  rw [num3] at hmod
  simp only [ep, eq, er] at hmod
  have k2 : C ≠ 0 := by omega
  have HP := Lib.hid (three_lit w A B C 2 (by omega))
  have HK := Lib.hid ((Kept.refl (fun _ => False) w).alloc (.cells #[.int .u8 (A : Int), .int .u8 (B : Int), .int .u8 (C : Int)] 5))
  have HT := Lib.hid (And.intro hout hcl)
  have q2 : ((C : Int) != 0) = true := by simp; omega
  have L1 : IntKind.i64.wrap 1 = 1 := by decide
  have L2 : IntKind.i64.wrap 2 = 2 := by decide
  have L3 : IntKind.i64.wrap 3 = 3 := by decide
  have L4 : IntKind.i64.wrap 4 = 4 := by decide
  clear hs hc hout hcl hV hVlt hA hB hC hcl2 hmod t1 t2 t3 g1 g2 ep eq er k2
  go_enter Try.func24, Try.ntmps24
  go_wp2
  refine wp_loop_rounds 5 ?_
  rw [rounds_succ]
  go_wp2_with fail
  refine (H0.out _).mono ?_
  rintro e w' ⟨rfl, rfl⟩
  go_wp2
  rw [rounds_succ]
  go_wp2_with fail
  refine (H1.out _).mono ?_
  rintro e w' ⟨rfl, rfl⟩
  go_wp2
  rw [rounds_succ]
  go_wp2_with fail
  refine (H2.out _).mono ?_
  rintro e w' ⟨rfl, rfl⟩
  go_wp2
  rw [rounds_succ]
  go_wp2
  rw [rounds_succ]
  go_wp2
  refine wp_loop_rounds 4 ?_
  rw [rounds_succ]
  go_wp2
  refine bodyPost_ret (v := .tuple #[.slice none 0 0, .bool false]) (by simp [results, Try.results24, go_sem]) rfl ?_
  unfold ThreePost
  rw [HT.out.2]
  exact ⟨_, rfl, Own.nil _ _ _, HK.out, .inl rfl⟩

set_option maxRecDepth 100000 in
set_option maxHeartbeats 8000000 in
theorem three_4y (p q r z : Nat) (sa : Option Addr) (cap : Nat) (w : World) (hp : val p < 64) (cp : p < 256) (hq : val q < 64) (cq : q < 256) (hr : val r < 64) (cr : r < 256) (hz : val z < 64) (cz : z < 256) (hl : 4 ≤ cap) (hs : SlAt .u8 w sa 4 (ints [p, q, r, z])) :
    Calls Try.prog 24 #[.slice sa 4 cap] w (ThreePost [p, q, r, z] w) := by
  obtain ⟨b, off, rfl, hc⟩ := hs.2.resolve_left (by omega)
  have p0 : w.cell? ⟨b, off, none⟩ = some (.int .u8 (p : Int)) := hc 0 (by omega)
  have H0 := Lib.hid (fun W => value_some p cp hp W)
  have p1 : w.cell? ⟨b, off + 1, none⟩ = some (.int .u8 (q : Int)) := hc 1 (by omega)
  have H1 := Lib.hid (fun W => value_some q cq hq W)
  have p2 : w.cell? ⟨b, off + 2, none⟩ = some (.int .u8 (r : Int)) := hc 2 (by omega)
  have H2 := Lib.hid (fun W => value_some r cr hr W)
  have p3 : w.cell? ⟨b, off + 3, none⟩ = some (.int .u8 (z : Int)) := hc 3 (by omega)
  have H3 := Lib.hid (fun W => value_some z cz hz W)
  have hcl : clean [p, q, r, z] = true := by simp [clean, Nat.mod_one]
  obtain ⟨vp, ep⟩ : ∃ v, val p = v := ⟨_, rfl⟩
  obtain ⟨vq, eq⟩ : ∃ v, val q = v := ⟨_, rfl⟩
  obtain ⟨vr, er⟩ : ∃ v, val r = v := ⟨_, rfl⟩
  obtain ⟨vz, ez⟩ : ∃ v, val z = v := ⟨_, rfl⟩
  rw [ep] at H0 hp
  rw [eq] at H1 hq
  rw [er] at H2 hr
  rw [ez] at H3 hz
  have z0 : IntKind.i64.wrap 0 = 0 := by decide
  have u0 : IntKind.i64.wrap (vp : Int) = (vp : Int) := IntWalk.i64_in _ (by omega)
  obtain ⟨T1, t1⟩ : ∃ T, vp * 64 = T := ⟨_, rfl⟩
  have w1 : IntKind.i64.wrap ((vp : Int) * 64) = (T1 : Int) := by rw [IntWalk.i64_in _ (by omega)]; omega
  obtain ⟨V1, g1⟩ : ∃ V, T1 + vq = V := ⟨_, rfl⟩
  have x1 : IntKind.i64.wrap ((T1 : Int) + (vq : Int)) = (V1 : Int) := by rw [IntWalk.i64_in _ (by omega)]; omega
  obtain ⟨T2, t2⟩ : ∃ T, V1 * 64 = T := ⟨_, rfl⟩
  have w2 : IntKind.i64.wrap ((V1 : Int) * 64) = (T2 : Int) := by rw [IntWalk.i64_in _ (by omega)]; omega
  obtain ⟨V2, g2⟩ : ∃ V, T2 + vr = V := ⟨_, rfl⟩
  have x2 : IntKind.i64.wrap ((T2 : Int) + (vr : Int)) = (V2 : Int) := by rw [IntWalk.i64_in _ (by omega)]; omega
  obtain ⟨T3, t3⟩ : ∃ T, V2 * 64 = T := ⟨_, rfl⟩
  have w3 : IntKind.i64.wrap ((V2 : Int) * 64) = (T3 : Int) := by rw [IntWalk.i64_in _ (by omega)]; omega
  obtain ⟨V3, g3⟩ : ∃ V, T3 + vz = V := ⟨_, rfl⟩
  have x3 : IntKind.i64.wrap ((T3 : Int) + (vz : Int)) = (V3 : Int) := by rw [IntWalk.i64_in _ (by omega)]; omega
  have hV : num [p, q, r, z] * 64 ^ (4 - 4) = V3 := by rw [num4]; simp only [ep, eq, er, ez]; omega
  have hVlt : V3 < 16777216 := by omega
  obtain ⟨A, hA⟩ : ∃ A, V3 / 65536 % 256 = A := ⟨_, rfl⟩
  obtain ⟨B, hB⟩ : ∃ A, V3 / 256 % 256 = A := ⟨_, rfl⟩
  obtain ⟨C, hC⟩ : ∃ A, V3 % 256 = A := ⟨_, rfl⟩
  have y1 : IntKind.u8.wrap ((V3 : Int) / 65536) = (A : Int) := by rw [IntKind.wrap_u8]; omega
  have y2 : IntKind.u8.wrap ((V3 : Int) / 256) = (B : Int) := by rw [IntKind.wrap_u8]; omega
  have y3 : IntKind.u8.wrap (V3 : Int) = (C : Int) := by rw [IntKind.wrap_u8]; omega
  have hout : out [p, q, r, z] = ([A, B, C] : List Nat).take 3 := by
    have : out [p, q, r, z] = (oct (num [p, q, r, z] * 64 ^ (4 - 4))).take 3 := by simp [out]
    rw [this, hV]; simp only [oct, hA, hB, hC]
  have HP := Lib.hid (three_lit w A B C 3 (by omega))
  have HK := Lib.hid ((Kept.refl (fun _ => False) w).alloc (.cells #[.int .u8 (A : Int), .int .u8 (B : Int), .int .u8 (C : Int)] 5))
  have HT := Lib.hid (And.intro hout hcl)
  have L1 : IntKind.i64.wrap 1 = 1 := by decide
  have L2 : IntKind.i64.wrap 2 = 2 := by decide
  have L3 : IntKind.i64.wrap 3 = 3 := by decide
  have L4 : IntKind.i64.wrap 4 = 4 := by decide
  clear hs hc hout hcl hV hVlt hA hB hC t1 t2 t3 g1 g2 g3 ep eq er ez
  go_enter Try.func24, Try.ntmps24
  go_wp2
  refine wp_loop_rounds 5 ?_
  rw [rounds_succ]
  go_wp2_with fail
  refine (H0.out _).mono ?_
  rintro e w' ⟨rfl, rfl⟩
  go_wp2
  rw [rounds_succ]
  go_wp2_with fail
  refine (H1.out _).mono ?_
  rintro e w' ⟨rfl, rfl⟩
  go_wp2
  rw [rounds_succ]
  go_wp2_with fail
  refine (H2.out _).mono ?_
  rintro e w' ⟨rfl, rfl⟩
  go_wp2
  rw [rounds_succ]
  go_wp2_with fail
  refine (H3.out _).mono ?_
  rintro e w' ⟨rfl, rfl⟩
  go_wp2
  rw [rounds_succ]
  go_wp2
  refine wp_loop_rounds 4 ?_
  rw [rounds_succ]
  go_wp2
  refine bodyPost_ret (v := .tuple #[.slice (some ⟨w'.heap.size, 0, none⟩) 3 3, .bool true]) (by simp [results, Try.results24, go_sem]) rfl ?_
  unfold ThreePost
  rw [HT.out.2, if_pos rfl, HT.out.1]
  exact ⟨_, rfl, HP.out, HK.out, .inr ⟨_, rfl, Nat.le_refl _⟩⟩
end Go.Proofs.Ytgmbjebighhgkaa
