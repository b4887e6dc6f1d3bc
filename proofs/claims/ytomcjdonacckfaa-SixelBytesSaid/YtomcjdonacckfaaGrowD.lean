/- The size made larger: grow. -/
import Derived.Test.YtomcjdonacckfaaMat
import Derived.Test.YtomcjdonacckfaaColor
namespace Go.Proofs.Ytomcjdonacckfaa
open Go.RowKit
set_option linter.unusedVariables false
set_option linter.unusedSimpArgs false
/-- The size is at least that. -/
def Dec.grow (d : Dec) (W0 H0 W1 H1 : Nat) : Dec :=
  if W1 = W0 ∧ H1 = H0 then d else if d.most / 4 / (H1 : Int) < (W1 : Int) then { d with full := true, p := [] } else { d with w := W1, h := H1, p := grown d.p W0 H0 W1 H1 }
def growOk (d : Dec) (W0 H0 W1 H1 : Nat) : Bool := if W1 = W0 ∧ H1 = H0 then true else decide ((W1 : Int) ≤ d.most / 4 / (H1 : Int))
/-- The larger one of two numbers, as the program picks it. -/
def Picks (w0 W0 W1 : Nat) : Prop := (w0 < W0 ∧ W1 = W0) ∨ (W0 ≤ w0 ∧ W1 = w0)
theorem max_pick {w0 W0 W1 : Nat} (h : Picks w0 W0 W1) : (if (w0 : Int) < (W0 : Int) then (W0 : Int) else (w0 : Int)) = (W1 : Int) ∧ (if w0 < W0 then (W0 : Int) else (w0 : Int)) = (W1 : Int) := by
  rcases h with ⟨h, rfl⟩ | ⟨h, rfl⟩
  · exact ⟨if_pos (by omega), if_pos h⟩
  · exact ⟨if_neg (by omega), if_neg (by omega)⟩
set_option maxRecDepth 100000 in
set_option maxHeartbeats 4000000 in
theorem grow_same (G : Nat → Prop) (d : Dec) (W : World) (a w0 h0 W0 H0 W1 H1 : Nat) (h : DOwn G W a d) (hw : d.w = (W0 : Int)) (hh : d.h = (H0 : Int)) (hp1 : Picks w0 W0 W1) (hp2 : Picks h0 H0 H1) (he : W1 = W0 ∧ H1 = H0) :
    Calls Try.prog 42 #[.pointer (some ⟨a, 0, none⟩), .int .i64 w0, .int .i64 h0] W fun e w' => e = .returned (.bool true) ∧ Turn G W w' a d := by
  have HD := Lib.hid h
  obtain ⟨pv, nv, hb, -, -, -, -, -, -⟩ := h
  have hb2 : DBlk W.drew a d pv nv := hb
  obtain ⟨cw, -⟩ := hb.fw
  obtain ⟨ch, -⟩ := hb.fh
  obtain ⟨dw, -⟩ := hb2.fw
  obtain ⟨dh, -⟩ := hb2.fh
  rw [hw] at cw dw
  rw [hh] at ch dh
  obtain ⟨m1, m2⟩ := max_pick hp1
  obtain ⟨m3, m4⟩ := max_pick hp2
  obtain ⟨rfl, rfl⟩ := he
  clear hb hb2 hw hh hp1 hp2
  go_enter Try.func42, Try.ntmps42
  go_wp2
  go_still (by kernel_rfl)
  go_wp2
  exact bodyPost_ret (v := .bool true) (by simp [results, Try.results42, go_sem]) rfl ⟨rfl, (Turn.refl HD.out).up (Kept.refl _ W).drew⟩
theorem Turn.nilP {G : Nat → Prop} {w W : World} {a : Nat} {d : Dec} (h : Turn G w W a d) : Turn G w (W.setCell ⟨a, 775, none⟩ (.slice none 0 0)) a { d with p := [] } := by
  obtain ⟨G', ⟨pv, nv, hb, hp, hn, h1, h2, h3, hG⟩, g2, hk⟩ := h
  exact Turn.then g2 hk (turn_p hb hn h2 hG (Kept.refl _ _) (Own.nil _ _ _) (fun b hb => by cases hb))
set_option maxRecDepth 100000 in
set_option maxHeartbeats 8000000 in
theorem grow_full (G : Nat → Prop) (d : Dec) (W : World) (a w0 h0 W0 H0 W1 H1 M K1 K2 : Nat) (h : DOwn G W a d) (hw : d.w = (W0 : Int)) (hh : d.h = (H0 : Int)) (hm : d.most = (M : Int)) (hp1 : Picks w0 W0 W1) (hp2 : Picks h0 H0 H1) (he : ¬ (W1 = W0 ∧ H1 = H0))
    (hH : 1 ≤ H1 ∧ H1 ≤ 16384) (hM : M ≤ 1073741824) (hK1 : M / 4 = K1) (hK2 : K1 / H1 = K2) (hlt : K2 < W1) :
    Calls Try.prog 42 #[.pointer (some ⟨a, 0, none⟩), .int .i64 w0, .int .i64 h0] W fun e w' => e = .returned (.bool false) ∧ Turn G W w' a { d with full := true, p := [] } := by
  have HD := Lib.hid h
  obtain ⟨pv, nv, hb, hpo, hno, o1, o2, o3, hG⟩ := h
  have HB := Lib.hid (And.intro hb (And.intro hpo (And.intro hno (And.intro o1 (And.intro o2 (And.intro o3 hG))))))
  have hb2 : DBlk W.drew a d pv nv := hb
  obtain ⟨cw, -⟩ := hb.fw
  obtain ⟨ch, -⟩ := hb.fh
  obtain ⟨dw, -⟩ := hb2.fw
  obtain ⟨dh, -⟩ := hb2.fh
  obtain ⟨dm, -⟩ := hb2.fmost
  rw [hw] at cw dw
  rw [hh] at ch dh
  rw [hm] at dm
  obtain ⟨m1, m2⟩ := max_pick hp1
  obtain ⟨m3, m4⟩ := max_pick hp2
  have HH := Lib.hid (And.intro hw (And.intro hh hm))
  have HP := Lib.hid (And.intro hp1 hp2)
  have hK1l : K1 ≤ 268435456 := by omega
  have hK2l : K2 ≤ 268435456 := by rw [← hK2]; exact Nat.le_trans (Nat.div_le_self _ _) hK1l
  have v1 : (M : Int).tdiv 4 = (K1 : Int) := by rw [Int.tdiv_eq_ediv_of_nonneg (by omega)]; omega
  have v1' : (M : Int) / 4 = (K1 : Int) := by omega
  have v2 : (K1 : Int).tdiv (H1 : Int) = (K2 : Int) := by rw [Int.tdiv_eq_ediv_of_nonneg (by omega), ← hK2]; rfl
  have v2' : (K1 : Int) / (H1 : Int) = (K2 : Int) := by rw [← hK2]; rfl
  have n1 : IntKind.i64.wrap (K1 : Int) = (K1 : Int) := IntWalk.i64_in _ (by omega)
  have n2 : IntKind.i64.wrap (K2 : Int) = (K2 : Int) := IntWalk.i64_in _ (by omega)
  have nz : ¬ H1 = 0 := by omega
  have nz' : ¬ (H1 : Int) = 0 := by omega
  have gh : decide (0 < H1) = true := decide_eq_true (by omega)
  have HK := Lib.hid (And.intro hK1 hK2)
  clear hb hb2 hw hh hm hp1 hp2 hpo hno o1 o2 o3 hG hK1 hK2
  have gq : decide (K2 < W1) = true := decide_eq_true hlt
  have hc1 : DBlk W.drew a d pv nv := HB.out.1
  obtain ⟨cf, cf'⟩ := hc1.ffull
  have hc2 := hc1.sfull true
  obtain ⟨V1, hV1⟩ : ∃ V, W.drew.setCell ⟨a, 778, none⟩ (.bool true) = V := ⟨_, rfl⟩
  have hT1 : Turn G W V1 a { d with full := true } := by rw [← hV1]; exact ((Turn.refl HD.out).up (Kept.refl _ W).drew).set (fun _ _ h => h.sfull true) rfl rfl
  rw [hV1] at hc2
  obtain ⟨cp, cp'⟩ := hc2.fp
  have HT1 := Lib.hid hT1
  clear hc1 hc2 hT1
  by_cases hww : W1 = W0
  · have e1 : ((W1 : Int) == (W0 : Int)) = true := by simp; omega
    have e2 : ((H1 : Int) == (H0 : Int)) = false := by simp; omega
    have HWW := Lib.hid hww
    clear hww he
    go_enter Try.func42, Try.ntmps42
    go_wp2
    go_still (by kernel_rfl)
    go_wp2
    exact bodyPost_ret (v := .bool false) (by simp [results, Try.results42, go_sem]) rfl ⟨rfl, HT1.out.nilP⟩
  · have e1 : ((W1 : Int) == (W0 : Int)) = false := by simp; omega
    have HWW := Lib.hid hww
    clear hww he
    go_enter Try.func42, Try.ntmps42
    go_wp2
    go_still (by kernel_rfl)
    go_wp2
    exact bodyPost_ret (v := .bool false) (by simp [results, Try.results42, go_sem]) rfl ⟨rfl, HT1.out.nilP⟩
theorem size5 : (Try.prog.info? 5).map (·.size) = some 1 := by kernel_rfl
theorem tinfo5 : (Try.prog.info? 5).map (fun i => (i.zero, i.size, i.bytes)) = some (some (.int .u8 0), 1, 1) := by kernel_rfl
theorem turn_grow {G : Nat → Prop} {W w5 : World} {a : Nat} {d : Dec} {pv nv v5 : Value} {ps : List Int} (hb : DBlk W a d pv nv) (hn : Own .i64 3 W nv d.n) (h2 : nv.ownBlock ≠ some a)
    (hG : ∀ i, G i ↔ i = a ∨ pv.ownBlock = some i ∨ nv.ownBlock = some i) (hk5 : Kept (fun _ => False) W w5) (ho5 : Own .u8 5 w5 v5 ps) (hpr5 : ∀ b, v5.ownBlock = some b → W.heap.size ≤ b) (x y : Int) :
    Turn G W (((w5.setCell ⟨a, 773, none⟩ (.int .i64 x)).setCell ⟨a, 774, none⟩ (.int .i64 y)).setCell ⟨a, 775, none⟩ v5) a { d with w := x, h := y, p := ps } := by
  have haW := hb.lt
  have hnl := hn.lt
  have h5a : v5.ownBlock ≠ some a := fun h => by have := hpr5 a h; omega
  have hk6 : Kept (fun j => j = a) w5 (((w5.setCell ⟨a, 773, none⟩ (.int .i64 x)).setCell ⟨a, 774, none⟩ (.int .i64 y)).setCell ⟨a, 775, none⟩ v5) := (((Kept.refl (fun j => j = a) w5).setCell (p := ⟨a, 773, none⟩) (.inl rfl) _).setCell (p := ⟨a, 774, none⟩) (.inl rfl) _).setCell (p := ⟨a, 775, none⟩) (.inl rfl) v5
  refine ⟨fun i => i = a ∨ v5.ownBlock = some i ∨ nv.ownBlock = some i, ⟨v5, nv, ((((hb.kept hk5 id).sw x).sh y).sp v5 ps), ho5.kept hk6 (fun b hb hba => h5a (by rw [hb]; exact congrArg some hba)),
    (hn.kept hk5 (fun _ _ => id)).kept hk6 (fun b hb hba => h2 (by rw [hb]; exact congrArg some hba)), h5a, h2, ?_, fun _ => Iff.rfl⟩, ?_, ?_⟩
  · intro b hb hv
    have := hpr5 b hb
    have := hnl b hv
    omega
  · intro i hi
    rcases hi with h | h | h
    · exact .inl ((hG i).2 (.inl h))
    · exact .inr (hpr5 i h)
    · exact .inl ((hG i).2 (.inr (.inr h)))
  · exact (hk5.mono fun _ _ h => h.elim).then (hk6.mono fun i _ hi => (hG i).2 (.inl hi))
theorem SlAt.up2 {k : IntKind} {w w' : World} {a0 : Option Addr} {len : Nat} {xs : List Int} (h : SlAt k w a0 len xs) (hk : Kept (fun _ => False) w w') : SlAt k w' a0 len xs := h.kept hk (fun _ _ _ _ => id)
theorem SlAt.sub {k : IntKind} {w : World} {b off len at_ n : Nat} {xs : List Int} (h : SlAt k w (some ⟨b, off, none⟩) len xs) (hn : at_ + n ≤ len) :
    SlAt k w (some ⟨b, off + at_, none⟩) n ((xs.drop at_).take n) := by
  obtain ⟨h1, h2⟩ := h
  refine ⟨by simp; omega, ?_⟩
  by_cases h0 : n = 0
  · exact .inl h0
  · obtain ⟨b', off', he, hc⟩ := h2.resolve_left (by omega)
    cases he
    refine .inr ⟨b, off + at_, rfl, fun j hj => ?_⟩
    rw [show off + at_ + j = off + (at_ + j) by omega, hc _ (by omega)]
    simp [hj]
set_option maxRecDepth 100000 in
set_option maxHeartbeats 8000000 in
theorem grow_yes (G : Nat → Prop) (d : Dec) (W : World) (a w0 h0 W0 H0 W1 H1 M K1 K2 : Nat) (h : DOwn G W a d) (hw : d.w = (W0 : Int)) (hh : d.h = (H0 : Int)) (hm : d.most = (M : Int)) (hp1 : Picks w0 W0 W1) (hp2 : Picks h0 H0 H1) (he : ¬ (W1 = W0 ∧ H1 = H0))
    (hH : 1 ≤ H1 ∧ H1 ≤ 16384) (hM : M ≤ 1073741824) (hK1 : M / 4 = K1) (hK2 : K1 / H1 = K2) (hle : W1 ≤ K2) (hW1 : 1 ≤ w0) (hp0 : d.p.length = 4 * W0 * H0) (hz : W0 = 0 → H0 = 0) :
    Calls Try.prog 42 #[.pointer (some ⟨a, 0, none⟩), .int .i64 w0, .int .i64 h0] W fun e w' => e = .returned (.bool true) ∧ Turn G W w' a { d with w := (W1 : Int), h := (H1 : Int), p := grown d.p W0 H0 W1 H1 } := by
  have HD := Lib.hid h
  obtain ⟨pv, nv, hb, hpo, hno, o1, o2, o3, hG⟩ := h
  have HB := Lib.hid (And.intro hb (And.intro hpo (And.intro hno (And.intro o1 (And.intro o2 (And.intro o3 hG))))))
  have hb2 : DBlk W.drew a d pv nv := hb
  obtain ⟨cw, -⟩ := hb.fw
  obtain ⟨ch, -⟩ := hb.fh
  obtain ⟨dw, -⟩ := hb2.fw
  obtain ⟨dh, -⟩ := hb2.fh
  obtain ⟨dm, -⟩ := hb2.fmost
  rw [hw] at cw dw
  rw [hh] at ch dh
  rw [hm] at dm
  obtain ⟨m1, m2⟩ := max_pick hp1
  obtain ⟨m3, m4⟩ := max_pick hp2
  have HH := Lib.hid (And.intro hw (And.intro hh hm))
  have HP := Lib.hid (And.intro hp1 hp2)
  have hK1l : K1 ≤ 268435456 := by omega
  have hK2l : K2 ≤ 268435456 := by rw [← hK2]; exact Nat.le_trans (Nat.div_le_self _ _) hK1l
  have v1 : (M : Int).tdiv 4 = (K1 : Int) := by rw [Int.tdiv_eq_ediv_of_nonneg (by omega)]; omega
  have v1' : (M : Int) / 4 = (K1 : Int) := by omega
  have v2 : (K1 : Int).tdiv (H1 : Int) = (K2 : Int) := by rw [Int.tdiv_eq_ediv_of_nonneg (by omega), ← hK2]; rfl
  have v2' : (K1 : Int) / (H1 : Int) = (K2 : Int) := by rw [← hK2]; rfl
  have n1 : IntKind.i64.wrap (K1 : Int) = (K1 : Int) := IntWalk.i64_in _ (by omega)
  have n2 : IntKind.i64.wrap (K2 : Int) = (K2 : Int) := IntWalk.i64_in _ (by omega)
  have nz : ¬ H1 = 0 := by omega
  have nz' : ¬ (H1 : Int) = 0 := by omega
  have gh : decide (0 < H1) = true := decide_eq_true (by omega)
  have HK := Lib.hid (And.intro hK1 hK2)
  clear hb hb2 hw hh hm hp1 hp2 hpo hno o1 o2 o3 hG hK1 hK2
  have HPL := Lib.hid hp0
  have HZ := Lib.hid hz
  clear hp0 hz
  have gq : decide (K2 < W1) = false := decide_eq_false (by omega)
  obtain ⟨i0, hi, hz0, hz1, hz2⟩ := info_parts tinfo5
  have HI := Lib.hid (And.intro hi (And.intro hz0 (And.intro hz1 hz2)))
  clear hi hz0 hz1 hz2
  have hWle : W0 ≤ W1 ∧ 1 ≤ W1 := by rcases HP.out.1 with h | h <;> omega
  have hHle : H0 ≤ H1 := by rcases HP.out.2 with h | h <;> omega
  obtain ⟨A, hA⟩ : ∃ A, 4 * W1 = A := ⟨_, rfl⟩
  obtain ⟨N, hN⟩ : ∃ N, A * H1 = N := ⟨_, rfl⟩
  have hNb : N ≤ 1073741824 := by
    rw [← hN, ← hA]
    have h1 : W1 * H1 ≤ K2 * H1 := Nat.mul_le_mul_right _ hle
    have h2 : K2 * H1 ≤ K1 := by rw [← HK.out.2]; exact Nat.div_mul_le_self _ _
    have h3 : 4 * W1 * H1 = 4 * (W1 * H1) := Nat.mul_assoc _ _ _
    omega
  have hAb : A ≤ 1073741824 := by
    have : A * 1 ≤ A * H1 := Nat.mul_le_mul_left _ hH.1
    omega
  have x1 : IntKind.i64.wrap (4 * (W1 : Int)) = (A : Int) := by rw [IntWalk.i64_in _ (by omega)]; omega
  have x2 : (A : Int) * (H1 : Int) = (N : Int) := by rw [← hN]; simp
  have x3 : IntKind.i64.wrap (N : Int) = (N : Int) := IntWalk.i64_in _ (by omega)
  have HN := Lib.hid (And.intro hA (And.intro hN (And.intro hWle hHle)))
  clear hA hN
  obtain ⟨q, hq⟩ : ∃ q, W.heap.size = q := ⟨_, rfl⟩
  have haq : a < q := by rw [← hq]; exact HB.out.1.lt
  have HQ := Lib.hid (And.intro hq haq)
  by_cases hww : W1 = W0
  · have e1 : ((W1 : Int) == (W0 : Int)) = true := by simp; omega
    have e2 : ((H1 : Int) == (H0 : Int)) = false := by simp; omega
    have HWW := Lib.hid hww
    clear hww he
    go_enter Try.func42, Try.ntmps42
    go_wp2
    go_still (by kernel_rfl)
    go_wp2_with (refine wpList_makeInts rfl (.tmp 59) (.tmp 59) 30 rfl 5 .u8 i0 1 Try.underlying30 HI.out.1 HI.out.2.1 HI.out.2.2.1 HI.out.2.2.2 .i64 .i64 _ _ N rfl rfl rfl rfl (by omega) (by simp [maxLen]; omega) ?_; intro w5 ho5 hk5 hz5; have ho5q : Own .u8 5 w5 (.slice (some ⟨q, 0, none⟩) N N) (List.replicate N 0) := (by rw [← hq]; exact ho5); have hkw5 : Kept (fun _ => False) W w5 := ((Kept.refl _ W).drew.then hk5); have hb5 : DBlk w5 a d pv nv := HB.out.1.kept hkw5 id; obtain ⟨c5, -⟩ := hb5.fh; rw [HH.out.2.1] at c5; have H5 := Lib.hid (And.intro ho5q (And.intro hkw5 hb5)); clear ho5 ho5q hk5 hkw5 hb5 hz5)
    go_loopg [8, 65] H0 (fun gg _ yv wr => ∃ y : Nat, H0 ≤ gg + y ∧ y ≤ H0 ∧ yv = .int .i64 (y : Int) ∧ Own .u8 5 wr (.slice (some ⟨q, 0, none⟩) N N) (tab N (growF d.p W0 W1 y)) ∧ Kept (fun i => i = q) w5 wr)
    case atStart => exact ⟨0, by omega, by omega, rfl, by rw [← grow_start]; exact H5.out.1, Kept.refl _ _⟩
    case round =>
      obtain ⟨y, hgg, hyH, rfl, ho, hk⟩ := hrel
      have HO := Lib.hid (And.intro ho hk)
      have hkw : Kept (fun _ => False) W wr := H5.out.2.1.trans (hk.mono fun i _ (hi : i = q) => Or.inr (by rw [hi, ← hq]; exact Nat.le_refl _))
      have hbr : DBlk wr a d pv nv := HB.out.1.kept hkw id
      have HKW := Lib.hid hkw
      by_cases hy : y < H0
      · have gy : decide (y < H0) = true := decide_eq_true hy
        have hbr2 : DBlk wr.drew a d pv nv := hbr
        obtain ⟨r1, -⟩ := hbr2.fp
        obtain ⟨r2, -⟩ := hbr2.fw
        rw [HH.out.1] at r2
        have hW0 : 1 ≤ W0 := by rcases Nat.lt_or_ge 0 W0 with h | h; (exact h); (have := HZ.out (by omega); omega)
        obtain ⟨pa, pc, hpv, hps, hplc, hpcm, hpn, -⟩ := HB.out.2.1.shape
        rw [HPL.out] at hpv hps hplc
        obtain ⟨C, hC⟩ : ∃ C, 4 * W0 = C := ⟨_, rfl⟩
        obtain ⟨E, hE⟩ : ∃ E, C * y = E := ⟨_, rfl⟩
        obtain ⟨F, hF⟩ : ∃ F, C * (y + 1) = F := ⟨_, rfl⟩
        obtain ⟨B, hB⟩ : ∃ B, A * y = B := ⟨_, rfl⟩
        have hEF : E + C = F := by rw [← hE, ← hF, Nat.mul_add, Nat.mul_one]
        have hFp : F ≤ 4 * W0 * H0 := by rw [← hF, ← hC]; exact Nat.mul_le_mul_left _ hy
        have hBN : B + A ≤ N := by
          rw [← hB, ← HN.out.2.1]
          have : A * (y + 1) ≤ A * H1 := Nat.mul_le_mul_left _ (by have := HN.out.2.2.2; omega)
          rw [Nat.mul_add, Nat.mul_one] at this
          exact this
        have hCA : C ≤ A := by rw [← hC, ← HN.out.1]; have := HN.out.2.2.1; omega
        obtain ⟨PL, hPL⟩ : ∃ PL, 4 * W0 * H0 = PL := ⟨_, rfl⟩
        rw [hPL] at hpv hps hplc hFp
        have hPLb : PL ≤ N := by
          rw [← hPL, ← HN.out.2.1, ← HN.out.1]
          exact Nat.mul_le_mul (by have := HN.out.2.2.1; omega) HN.out.2.2.2
        obtain ⟨b, off, rfl, -⟩ := hps.2.resolve_left (by omega)
        have hsub : SlAt .u8 wr.drew (some ⟨b, off + E, none⟩) C (tab C (fun x => d.p.getD (E + x) 0)) := by
          have h1 := (hps.up2 HKW.out.drew).sub (at_ := E) (n := C) (by omega)
          rw [← hE, ← hC, row_of_p d.p W0 y (by rw [HPL.out, hPL]; rw [hC, hE]; omega), hC, hE] at h1
          exact h1
        subst hpv
        have HSUB := Lib.hid hsub
        have HROW := Lib.hid (show spl (tab N (growF d.p W0 W1 y)) B (tab C (fun x => d.p.getD (E + x) 0)) = tab N (growF d.p W0 W1 (y + 1)) from by
          have h1 := grow_row d.p W0 W1 H1 y HN.out.2.2.1.1 HN.out.2.2.1.2 (by have := HN.out.2.2.2; omega)
          rw [HN.out.1, HN.out.2.1, hB, hC, hE] at h1
          exact h1)
        have k1 : IntKind.i64.wrap (4 * (W0 : Int)) = (C : Int) := by rw [IntWalk.i64_in _ (by omega)]; omega
        have k2 : (C : Int) * (y : Int) = (E : Int) := by rw [← hE]; simp
        have k3 : (C : Int) * ((y : Int) + 1) = (F : Int) := by rw [← hF]; simp
        have k4 : (A : Int) * (y : Int) = (B : Int) := by rw [← hB]; simp
        have k5 : IntKind.i64.wrap (E : Int) = (E : Int) := IntWalk.i64_in _ (by omega)
        have k6 : IntKind.i64.wrap (F : Int) = (F : Int) := IntWalk.i64_in _ (by omega)
        have k7 : IntKind.i64.wrap (B : Int) = (B : Int) := IntWalk.i64_in _ (by omega)
        have k8 : IntKind.i64.wrap ((y : Int) + 1) = (y : Int) + 1 := IntWalk.i64_in _ (by omega)
        have b1 : B ≤ N := by omega
        have b2 : E ≤ F := by omega
        have b3 : F ≤ pc := by omega
        have b4 : ¬ N = B := by omega
        have b5 : ¬ pc = E := by omega
        have b6 : F - E = C := by omega
        have HC := Lib.hid (show C = Nat.min C (N - B) ∧ B + C ≤ N from ⟨(Nat.min_eq_left (by omega)).symm, by omega⟩)
        clear hbr hbr2 hkw ho hk hps hplc hpcm hpn hC hE hF hB hEF hFp hBN hCA hPL hPLb hsub
        go_wp2
        go_still_tail 26, (by kernel_rfl)
        change wpList _ _ _ _ _ wr.drew
        refine wpList_cp rfl (.tmp 73) (.tmp 93) 30 30 rfl 5 .u8 Try.underlying30 size5 q N N B (N - B) (N - B) _ rfl (HO.out.1.kept (Kept.refl (fun _ => False) wr).drew (fun _ _ => id)) (some ⟨b, off + E, none⟩) C (pc - E) _ rfl HSUB.out C HC.out.1 HC.out.2 ?_
        intro w6 ho6 hk6
        rw [List.take_of_length_le (by rw [tab_length]; exact Nat.le_refl _), HROW.out] at ho6
        have H6 := Lib.hid (And.intro ho6 (HO.out.2.then ((Kept.refl _ wr).drew.then hk6)))
        clear ho6 hk6 r1 r2
        go_wp2
        go_roundg (gk - 1)
        case rel => exact ⟨y + 1, by omega, by omega, by simp, H6.out⟩
        case measure => omega
      · obtain rfl : y = H0 := by omega
        have gy : decide (y < y) = false := decide_eq_false (by omega)
        have hoF : Own .u8 5 wr (.slice (some ⟨q, 0, none⟩) N N) (grown d.p W0 y W1 H1) := by unfold grown; rw [HN.out.1, HN.out.2.1]; exact ho
        have hT := turn_grow HB.out.1 HB.out.2.2.1 HB.out.2.2.2.2.1 HB.out.2.2.2.2.2.2 hkw hoF (fun b hb => by cases hb; rw [hq]; exact Nat.le_refl _) (W1 : Int) (H1 : Int)
        have HT := Lib.hid hT
        obtain ⟨s1, s1'⟩ := hbr.fw
        have hb1 := hbr.sw (W1 : Int)
        obtain ⟨s2, s2'⟩ := hb1.fh
        have hb2 := hb1.sh (H1 : Int)
        obtain ⟨s3, s3'⟩ := hb2.fp
        clear hT hbr hb1 hb2 hkw ho hk hoF
        go_wp2
        exact bodyPost_ret (v := .bool true) (by simp [results, Try.results42, go_sem]) rfl ⟨rfl, HT.out⟩
  · have e1 : ((W1 : Int) == (W0 : Int)) = false := by simp; omega
    have HWW := Lib.hid hww
    clear hww he
    go_enter Try.func42, Try.ntmps42
    go_wp2
    go_still (by kernel_rfl)
    go_wp2_with (refine wpList_makeInts rfl (.tmp 59) (.tmp 59) 30 rfl 5 .u8 i0 1 Try.underlying30 HI.out.1 HI.out.2.1 HI.out.2.2.1 HI.out.2.2.2 .i64 .i64 _ _ N rfl rfl rfl rfl (by omega) (by simp [maxLen]; omega) ?_; intro w5 ho5 hk5 hz5; have ho5q : Own .u8 5 w5 (.slice (some ⟨q, 0, none⟩) N N) (List.replicate N 0) := (by rw [← hq]; exact ho5); have hkw5 : Kept (fun _ => False) W w5 := ((Kept.refl _ W).drew.then hk5); have hb5 : DBlk w5 a d pv nv := HB.out.1.kept hkw5 id; obtain ⟨c5, -⟩ := hb5.fh; rw [HH.out.2.1] at c5; have H5 := Lib.hid (And.intro ho5q (And.intro hkw5 hb5)); clear ho5 ho5q hk5 hkw5 hb5 hz5)
    go_loopg [8, 65] H0 (fun gg _ yv wr => ∃ y : Nat, H0 ≤ gg + y ∧ y ≤ H0 ∧ yv = .int .i64 (y : Int) ∧ Own .u8 5 wr (.slice (some ⟨q, 0, none⟩) N N) (tab N (growF d.p W0 W1 y)) ∧ Kept (fun i => i = q) w5 wr)
    case atStart => exact ⟨0, by omega, by omega, rfl, by rw [← grow_start]; exact H5.out.1, Kept.refl _ _⟩
    case round =>
      obtain ⟨y, hgg, hyH, rfl, ho, hk⟩ := hrel
      have HO := Lib.hid (And.intro ho hk)
      have hkw : Kept (fun _ => False) W wr := H5.out.2.1.trans (hk.mono fun i _ (hi : i = q) => Or.inr (by rw [hi, ← hq]; exact Nat.le_refl _))
      have hbr : DBlk wr a d pv nv := HB.out.1.kept hkw id
      have HKW := Lib.hid hkw
      by_cases hy : y < H0
      · have gy : decide (y < H0) = true := decide_eq_true hy
        have hbr2 : DBlk wr.drew a d pv nv := hbr
        obtain ⟨r1, -⟩ := hbr2.fp
        obtain ⟨r2, -⟩ := hbr2.fw
        rw [HH.out.1] at r2
        have hW0 : 1 ≤ W0 := by rcases Nat.lt_or_ge 0 W0 with h | h; (exact h); (have := HZ.out (by omega); omega)
        obtain ⟨pa, pc, hpv, hps, hplc, hpcm, hpn, -⟩ := HB.out.2.1.shape
        rw [HPL.out] at hpv hps hplc
        obtain ⟨C, hC⟩ : ∃ C, 4 * W0 = C := ⟨_, rfl⟩
        obtain ⟨E, hE⟩ : ∃ E, C * y = E := ⟨_, rfl⟩
        obtain ⟨F, hF⟩ : ∃ F, C * (y + 1) = F := ⟨_, rfl⟩
        obtain ⟨B, hB⟩ : ∃ B, A * y = B := ⟨_, rfl⟩
        have hEF : E + C = F := by rw [← hE, ← hF, Nat.mul_add, Nat.mul_one]
        have hFp : F ≤ 4 * W0 * H0 := by rw [← hF, ← hC]; exact Nat.mul_le_mul_left _ hy
        have hBN : B + A ≤ N := by
          rw [← hB, ← HN.out.2.1]
          have : A * (y + 1) ≤ A * H1 := Nat.mul_le_mul_left _ (by have := HN.out.2.2.2; omega)
          rw [Nat.mul_add, Nat.mul_one] at this
          exact this
        have hCA : C ≤ A := by rw [← hC, ← HN.out.1]; have := HN.out.2.2.1; omega
        obtain ⟨PL, hPL⟩ : ∃ PL, 4 * W0 * H0 = PL := ⟨_, rfl⟩
        rw [hPL] at hpv hps hplc hFp
        have hPLb : PL ≤ N := by
          rw [← hPL, ← HN.out.2.1, ← HN.out.1]
          exact Nat.mul_le_mul (by have := HN.out.2.2.1; omega) HN.out.2.2.2
        obtain ⟨b, off, rfl, -⟩ := hps.2.resolve_left (by omega)
        have hsub : SlAt .u8 wr.drew (some ⟨b, off + E, none⟩) C (tab C (fun x => d.p.getD (E + x) 0)) := by
          have h1 := (hps.up2 HKW.out.drew).sub (at_ := E) (n := C) (by omega)
          rw [← hE, ← hC, row_of_p d.p W0 y (by rw [HPL.out, hPL]; rw [hC, hE]; omega), hC, hE] at h1
          exact h1
        subst hpv
        have HSUB := Lib.hid hsub
        have HROW := Lib.hid (show spl (tab N (growF d.p W0 W1 y)) B (tab C (fun x => d.p.getD (E + x) 0)) = tab N (growF d.p W0 W1 (y + 1)) from by
          have h1 := grow_row d.p W0 W1 H1 y HN.out.2.2.1.1 HN.out.2.2.1.2 (by have := HN.out.2.2.2; omega)
          rw [HN.out.1, HN.out.2.1, hB, hC, hE] at h1
          exact h1)
        have k1 : IntKind.i64.wrap (4 * (W0 : Int)) = (C : Int) := by rw [IntWalk.i64_in _ (by omega)]; omega
        have k2 : (C : Int) * (y : Int) = (E : Int) := by rw [← hE]; simp
        have k3 : (C : Int) * ((y : Int) + 1) = (F : Int) := by rw [← hF]; simp
        have k4 : (A : Int) * (y : Int) = (B : Int) := by rw [← hB]; simp
        have k5 : IntKind.i64.wrap (E : Int) = (E : Int) := IntWalk.i64_in _ (by omega)
        have k6 : IntKind.i64.wrap (F : Int) = (F : Int) := IntWalk.i64_in _ (by omega)
        have k7 : IntKind.i64.wrap (B : Int) = (B : Int) := IntWalk.i64_in _ (by omega)
        have k8 : IntKind.i64.wrap ((y : Int) + 1) = (y : Int) + 1 := IntWalk.i64_in _ (by omega)
        have b1 : B ≤ N := by omega
        have b2 : E ≤ F := by omega
        have b3 : F ≤ pc := by omega
        have b4 : ¬ N = B := by omega
        have b5 : ¬ pc = E := by omega
        have b6 : F - E = C := by omega
        have HC := Lib.hid (show C = Nat.min C (N - B) ∧ B + C ≤ N from ⟨(Nat.min_eq_left (by omega)).symm, by omega⟩)
        clear hbr hbr2 hkw ho hk hps hplc hpcm hpn hC hE hF hB hEF hFp hBN hCA hPL hPLb hsub
        go_wp2
        go_still_tail 26, (by kernel_rfl)
        change wpList _ _ _ _ _ wr.drew
        refine wpList_cp rfl (.tmp 73) (.tmp 93) 30 30 rfl 5 .u8 Try.underlying30 size5 q N N B (N - B) (N - B) _ rfl (HO.out.1.kept (Kept.refl (fun _ => False) wr).drew (fun _ _ => id)) (some ⟨b, off + E, none⟩) C (pc - E) _ rfl HSUB.out C HC.out.1 HC.out.2 ?_
        intro w6 ho6 hk6
        rw [List.take_of_length_le (by rw [tab_length]; exact Nat.le_refl _), HROW.out] at ho6
        have H6 := Lib.hid (And.intro ho6 (HO.out.2.then ((Kept.refl _ wr).drew.then hk6)))
        clear ho6 hk6 r1 r2
        go_wp2
        go_roundg (gk - 1)
        case rel => exact ⟨y + 1, by omega, by omega, by simp, H6.out⟩
        case measure => omega
      · obtain rfl : y = H0 := by omega
        have gy : decide (y < y) = false := decide_eq_false (by omega)
        have hoF : Own .u8 5 wr (.slice (some ⟨q, 0, none⟩) N N) (grown d.p W0 y W1 H1) := by unfold grown; rw [HN.out.1, HN.out.2.1]; exact ho
        have hT := turn_grow HB.out.1 HB.out.2.2.1 HB.out.2.2.2.2.1 HB.out.2.2.2.2.2.2 hkw hoF (fun b hb => by cases hb; rw [hq]; exact Nat.le_refl _) (W1 : Int) (H1 : Int)
        have HT := Lib.hid hT
        obtain ⟨s1, s1'⟩ := hbr.fw
        have hb1 := hbr.sw (W1 : Int)
        obtain ⟨s2, s2'⟩ := hb1.fh
        have hb2 := hb1.sh (H1 : Int)
        obtain ⟨s3, s3'⟩ := hb2.fp
        clear hT hbr hb1 hb2 hkw ho hk hoF
        go_wp2
        exact bodyPost_ret (v := .bool true) (by simp [results, Try.results42, go_sem]) rfl ⟨rfl, HT.out⟩
end Go.Proofs.Ytomcjdonacckfaa
