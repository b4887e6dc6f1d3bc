/- The document's grow, when the picture is made larger. -/
import Derived.Test.YtomcjdonacckfaaGrowDR
namespace Go.Proofs.Ytomcjdonacckfaa.R
open Go.Proofs.Ytomcjdonacckfaa Go.RowKit
set_option linter.unusedVariables false
set_option linter.unusedSimpArgs false
theorem spl_nil (L : List Int) (B : Nat) (f : Nat → Int) : spl L B (tab 0 f) = L := by unfold spl tab; simp
theorem spl_step (L : List Int) (B x : Nat) (f : Nat → Int) (h : B + x < L.length) : (spl L B (tab x f)).set (B + x) (f x) = spl L B (tab (x + 1) f) := by
  have h1 : B + (tab x f).length ≤ L.length := by rw [tab_length]; omega
  have h2 : B + (tab (x + 1) f).length ≤ L.length := by rw [tab_length]; omega
  apply list_ext (by rw [List.length_set, spl_length h1, spl_length h2])
  intro j hj
  rw [List.length_set, spl_length h1] at hj
  rw [spl_get h2]
  by_cases e : B + x = j
  · subst e
    rw [if_pos (by rw [tab_length]; omega), show B + x - B = x by omega, tab_get (by omega)]
    simp [spl_length h1, h]
  · have e1 : ((spl L B (tab x f)).set (B + x) (f x)).getD j 0 = (spl L B (tab x f)).getD j 0 := by simp [List.getElem?_set, e]
    rw [e1, spl_get h1]
    simp only [tab_length]
    by_cases c : B ≤ j ∧ j < B + x
    · rw [if_pos c, if_pos (by omega), tab_get (by omega), tab_get (by omega)]
    · rw [if_neg c, if_neg (by omega)]
set_option maxRecDepth 100000 in
set_option maxHeartbeats 16000000 in
theorem grow_yes (G : Nat → Prop) (d : Dec) (W : World) (a w0 h0 W0 H0 W1 H1 M K1 K2 : Nat) (h : DOwn G W a d) (hw : d.w = (W0 : Int)) (hh : d.h = (H0 : Int)) (hm : d.most = (M : Int)) (hp1 : Picks w0 W0 W1) (hp2 : Picks h0 H0 H1) (he : ¬ (W1 = W0 ∧ H1 = H0))
    (hH : 1 ≤ H1 ∧ H1 ≤ 16384) (hM : M ≤ 1073741824) (hK1 : M / 4 = K1) (hK2 : K1 / H1 = K2) (hle : W1 ≤ K2) (hW1 : 1 ≤ w0) (hp0 : d.p.length = 4 * W0 * H0) :
    Calls Try.prog 47 #[.pointer (some ⟨a, 0, none⟩), .int .i64 w0, .int .i64 h0] W fun e w' => e = .returned (.bool true) ∧ Turn G W w' a { d with w := (W1 : Int), h := (H1 : Int), p := grown d.p W0 H0 W1 H1 } := by
  have HD := Lib.hid h
  obtain ⟨pv, nv, hb, hpo, hno, o1, o2, o3, hG⟩ := h
  have HB := Lib.hid (And.intro hb (And.intro hpo (And.intro hno (And.intro o1 (And.intro o2 (And.intro o3 hG))))))
  obtain ⟨cw, -⟩ := hb.fw
  obtain ⟨ch, -⟩ := hb.fh
  obtain ⟨dm, -⟩ := hb.fmost
  rw [hw] at cw
  rw [hh] at ch
  rw [hm] at dm
  have HH := Lib.hid (And.intro hw (And.intro hh hm))
  have HP := Lib.hid (And.intro hp1 hp2)
  have hK1l : K1 ≤ 268435456 := by omega
  have hK2l : K2 ≤ 268435456 := by rw [← hK2]; exact Nat.le_trans (Nat.div_le_self _ _) hK1l
  have v1 : (M : Int).tdiv 4 = (K1 : Int) := by rw [Int.tdiv_eq_ediv_of_nonneg (by omega)]; omega
  have v1' : (M : Int) / 4 = (K1 : Int) := by omega
  have v2 : (K1 : Int).tdiv (H1 : Int) = (K2 : Int) := by rw [Int.tdiv_eq_ediv_of_nonneg (by omega), ← hK2]; rfl
  have v2' : (K1 : Int) / (H1 : Int) = (K2 : Int) := by rw [← hK2]; rfl
  have n1 : IntKind.i64.wrap (K1 : Int) = (K1 : Int) := IntWalk.i64_in _ (by omega)
  have n2 : IntKind.i64.wrap (K2 : Int) = (K2 : Int) := IntWalk.i64_in _ (by omega)
  have nz : ¬ H1 = 0 := by omega
  have nz' : ¬ (H1 : Int) = 0 := by omega
  have gh : decide (0 < H1) = true := decide_eq_true (by omega)
  have HK := Lib.hid (And.intro hK1 hK2)
  clear hb hw hh hm hp1 hp2 hpo hno o1 o2 o3 hG hK1 hK2
  have HPL := Lib.hid hp0
  clear hp0
  have gq : decide (K2 < W1) = false := decide_eq_false (by omega)
  obtain ⟨i0, hi, hz0, hz1, hz2⟩ := info_parts tinfo5
  have HI := Lib.hid (And.intro hi (And.intro hz0 (And.intro hz1 hz2)))
  clear hi hz0 hz1 hz2
  have hWle : W0 ≤ W1 ∧ 1 ≤ W1 := by rcases HP.out.1 with h | h <;> omega
  have hHle : H0 ≤ H1 := by rcases HP.out.2 with h | h <;> omega
  obtain ⟨A, hA⟩ : ∃ A, 4 * W1 = A := ⟨_, rfl⟩
  obtain ⟨N, hN⟩ : ∃ N, A * H1 = N := ⟨_, rfl⟩
  have hNb : N ≤ 1073741824 := by
    rw [← hN, ← hA]
    have h1 : W1 * H1 ≤ K2 * H1 := Nat.mul_le_mul_right _ hle
    have h2 : K2 * H1 ≤ K1 := by rw [← HK.out.2]; exact Nat.div_mul_le_self _ _
    have h3 : 4 * W1 * H1 = 4 * (W1 * H1) := Nat.mul_assoc _ _ _
    omega
  have hAb : A ≤ 1073741824 := by
    have : A * 1 ≤ A * H1 := Nat.mul_le_mul_left _ hH.1
    omega
  obtain ⟨C, hC⟩ : ∃ C, 4 * W0 = C := ⟨_, rfl⟩
  have hCA : C ≤ A := by omega
  have x1 : IntKind.i64.wrap (4 * (W1 : Int)) = (A : Int) := by rw [IntWalk.i64_in _ (by omega)]; omega
  have x2 : (A : Int) * (H1 : Int) = (N : Int) := by rw [← hN]; simp
  have x3 : IntKind.i64.wrap (N : Int) = (N : Int) := IntWalk.i64_in _ (by omega)
  have x4 : IntKind.i64.wrap (4 * (W0 : Int)) = (C : Int) := by rw [IntWalk.i64_in _ (by omega)]; omega
  have HN := Lib.hid (And.intro hA (And.intro hN (And.intro hWle (And.intro hHle hC))))
  clear hA hN hC
  obtain ⟨q, hq⟩ : ∃ q, W.heap.size = q := ⟨_, rfl⟩
  have haq : a < q := by rw [← hq]; exact HB.out.1.lt
  have HQ := Lib.hid (And.intro hq haq)
  have hp1 := HP.out.1
  have hp2 := HP.out.2
  unfold Picks at hp1 hp2
  have s1 : (decide (w0 < W0) = true ∧ W0 = W1) ∨ (decide (w0 < W0) = false ∧ w0 = W1) := by
    rcases hp1 with ⟨h, e⟩ | ⟨h, e⟩
    · exact .inl ⟨decide_eq_true h, e.symm⟩
    · exact .inr ⟨decide_eq_false (by omega), e.symm⟩
  have s2 : (decide (h0 < H0) = true ∧ H0 = H1) ∨ (decide (h0 < H0) = false ∧ h0 = H1) := by
    rcases hp2 with ⟨h, e⟩ | ⟨h, e⟩
    · exact .inl ⟨decide_eq_true h, e.symm⟩
    · exact .inr ⟨decide_eq_false (by omega), e.symm⟩
  clear hp1 hp2
  have hne : W1 = W0 → ((H1 : Int) == (H0 : Int)) = false := fun h => by simp; omega
  have HE := Lib.hid (And.intro hne hH.1)
  clear he hne
  rcases s1 with ⟨p1, rfl⟩ | ⟨p1, rfl⟩
  · rcases s2 with ⟨p2, rfl⟩ | ⟨p2, rfl⟩
    · exact absurd (HE.out.1 rfl) (by simp)
    · have e2 := HE.out.1 rfl
      have gh : decide (0 < h0) = true := decide_eq_true HE.out.2
      have hAC : A = C := by have h1 := HN.out.1; have h2 := HN.out.2.2.2.2; omega
      subst hAC
      go_enter Try.func47, Try.ntmps47
      go_wp2_with (refine wpList_makeInts rfl (.tmp 66) (.tmp 66) 30 rfl 5 .u8 i0 1 Try.underlying30 HI.out.1 HI.out.2.1 HI.out.2.2.1 HI.out.2.2.2 .i64 .i64 _ _ N rfl rfl rfl rfl (by omega) (by simp [maxLen]; omega) ?_; intro w5 ho5 hk5 hz5; have ho5q : Own .u8 5 w5 (.slice (some ⟨q, 0, none⟩) N N) (List.replicate N 0) := (by rw [← hq]; exact ho5); have hkw5 : Kept (fun _ => False) W w5 := hk5; have hb5 : DBlk w5 a d pv nv := HB.out.1.kept hkw5 id; obtain ⟨c5, -⟩ := hb5.fh; rw [HH.out.2.1] at c5; have H5 := Lib.hid (And.intro ho5q (And.intro hkw5 hb5)); clear ho5 ho5q hk5 hkw5 hb5 hz5)
      go_loopg [8, 9] H0 (fun gg yv xv wr => ∃ (y : Nat) (ov : Value), H0 ≤ gg + y ∧ y ≤ H0 ∧ yv = .int .i64 (y : Int) ∧ ov = xv ∧ Own .u8 5 wr (.slice (some ⟨q, 0, none⟩) N N) (tab N (growF d.p W0 W0 y)) ∧ Kept (fun i => i = q) w5 wr)
      case atStart => exact ⟨0, _, by omega, by omega, rfl, rfl, by rw [← grow_start]; exact H5.out.1, Kept.refl _ _⟩
      case round =>
        obtain ⟨y, ov, hgg, hyH, rfl, rfl, ho, hk⟩ := hrel
        have HO := Lib.hid (And.intro ho hk)
        have hkw : Kept (fun _ => False) W wr := H5.out.2.1.trans (hk.mono fun i _ (hi : i = q) => Or.inr (by rw [hi, ← hq]; exact Nat.le_refl _))
        have hbr : DBlk wr a d pv nv := HB.out.1.kept hkw id
        have HKW := Lib.hid hkw
        obtain ⟨GK, hGK⟩ : ∃ G, gk = G := ⟨_, rfl⟩
        by_cases hy : y < H0
        · have gy : decide (y < H0) = true := decide_eq_true hy
          obtain ⟨r0, -⟩ := hbr.fh
          rw [HH.out.2.1] at r0
          obtain ⟨B, hB⟩ : ∃ B, A * y = B := ⟨_, rfl⟩
          have hE : A * y = B := hB
          obtain ⟨PL, hPL⟩ : ∃ PL, 4 * W0 * H0 = PL := ⟨_, rfl⟩
          have hEP : B + A ≤ PL := by
            rw [← hE, ← hPL, HN.out.2.2.2.2]
            have := Nat.mul_le_mul_left A hy
            rw [Nat.mul_succ] at this
            exact this
          have hBN : B + A ≤ N := by
            rw [← hB, ← HN.out.2.1]
            have := Nat.mul_le_mul_left A (show y + 1 ≤ h0 by have := HN.out.2.2.2.1; omega)
            rw [Nat.mul_succ] at this
            exact this
          have hPLb : PL ≤ N := by
            rw [← hPL, ← HN.out.2.1, ← HN.out.1]
            exact Nat.mul_le_mul (by have := HN.out.2.2.1; omega) HN.out.2.2.2.1
          have HROW := Lib.hid (show spl (tab N (growF d.p W0 W0 y)) B (tab A (fun x => d.p.getD (B + x) 0)) = tab N (growF d.p W0 W0 (y + 1)) from by
            have h1 := grow_row d.p W0 W0 h0 y HN.out.2.2.1.1 HN.out.2.2.1.2 (by have := HN.out.2.2.2.1; omega)
            rw [HN.out.1, HN.out.2.1, hB] at h1
            exact h1)
          have k2 : (A : Int) * (y : Int) = (B : Int) := by rw [← hE]; simp
          have k4 : (A : Int) * (y : Int) = (B : Int) := by rw [← hB]; simp
          have k5 : IntKind.i64.wrap (B : Int) = (B : Int) := IntWalk.i64_in _ (by omega)
          have k7 : IntKind.i64.wrap (B : Int) = (B : Int) := IntWalk.i64_in _ (by omega)
          have k8 : IntKind.i64.wrap ((y : Int) + 1) = (y : Int) + 1 := IntWalk.i64_in _ (by omega)
          have HPL2 := Lib.hid hPL
          clear hbr hkw ho hk hE hB hPL
          go_wp2
          go_loopg [9] A (fun gg xv wr => ∃ x : Nat, A ≤ gg + x ∧ x ≤ A ∧ xv = .int .i64 (x : Int) ∧ Own .u8 5 wr (.slice (some ⟨q, 0, none⟩) N N) (spl (tab N (growF d.p W0 W0 y)) B (tab x (fun x => d.p.getD (B + x) 0))) ∧ Kept (fun i => i = q) w5 wr)
          case atStart => exact ⟨0, by omega, by omega, rfl, by rw [spl_nil]; exact HO.out.1, HO.out.2⟩
          case round =>
            obtain ⟨x, hgx, hxC, rfl, ho, hk⟩ := hrel
            have HO2 := Lib.hid (And.intro ho hk)
            have hkw : Kept (fun _ => False) W wr := H5.out.2.1.trans (hk.mono fun i _ (hi : i = q) => Or.inr (by rw [hi, ← hq]; exact Nat.le_refl _))
            have hbr : DBlk wr a d pv nv := HB.out.1.kept hkw id
            have HKW2 := Lib.hid hkw
            obtain ⟨r2, -⟩ := hbr.fw
            rw [HH.out.1] at r2
            by_cases hx : x < A
            · have gx : decide (x < A) = true := decide_eq_true hx
              have hbr2 : DBlk wr.drew a d pv nv := hbr
              obtain ⟨s1, -⟩ := hbr2.fp
              obtain ⟨s2, -⟩ := hbr2.fw
              rw [HH.out.1] at s2
              obtain ⟨pa, pc, hpv, hps, hplc, hpcm, hpn, -⟩ := HB.out.2.1.shape
              rw [HPL.out, HPL2.out] at hpv hps hplc
              obtain ⟨b, off, rfl, hcs⟩ := hps.2.resolve_left (by omega)
              obtain ⟨I, hI⟩ : ∃ I, B + x = I := ⟨_, rfl⟩
              have hJ : B + x = I := hI
              have hc := HKW2.out.cell (hcs I (by omega)) id
              obtain ⟨z, hz⟩ : ∃ z, d.p.getD I 0 = z := ⟨_, rfl⟩
              rw [hz] at hc
              have sc : wr.drew.cell? ⟨b, off + I, none⟩ = some (.int .u8 z) := hc
              have hoD := ho.kept (Kept.refl (fun _ => False) wr).drew (fun _ _ => id)
              have hcI := hoD.at.2.2.2.1 I (by omega)
              have hfI := hoD.at.2.2.2.2 I
              obtain ⟨w6, hw6⟩ : ∃ w6, wr.drew.setCell ⟨q, I, none⟩ (.int .u8 z) = w6 := ⟨_, rfl⟩
              have ho6 : Own .u8 5 w6 (.slice (some ⟨q, 0, none⟩) N N) (spl (tab N (growF d.p W0 W0 y)) B (tab (x + 1) (fun x => d.p.getD (B + x) 0))) := by
                have h1 := hoD.set (i := I) (by omega) z
                rw [hw6] at h1
                have h2 := spl_step (tab N (growF d.p W0 W0 y)) B x (fun x => d.p.getD (B + x) 0) (by rw [tab_length]; omega)
                simp only [hJ, hz, hI] at h2
                rw [h2] at h1
                exact h1
              have hk6 : Kept (fun i => i = q) w5 w6 := by
                rw [← hw6]
                exact HO2.out.2.then ((Kept.refl (fun i => i = q) wr).drew.setCell (p := ⟨q, I, none⟩) (.inl rfl) _)
              have H6 := Lib.hid (And.intro ho6 hk6)
              have i1 : (B : Int) + (x : Int) = (I : Int) := by omega
              have i2 : (B : Int) + (x : Int) = (I : Int) := by omega
              have i3 : IntKind.i64.wrap (I : Int) = (I : Int) := IntWalk.i64_in _ (by omega)
              have i4 : IntKind.i64.wrap (I : Int) = (I : Int) := IntWalk.i64_in _ (by omega)
              have i5 : IntKind.i64.wrap ((x : Int) + 1) = (x : Int) + 1 := IntWalk.i64_in _ (by omega)
              have b1 : I < PL := by omega
              have b2 : I < N := by omega
              have b3 : (I : Int) < (PL : Int) := by omega
              have b4 : (I : Int) < (N : Int) := by omega
              subst hpv
              clear hbr hbr2 hkw ho hk hps hplc hpcm hpn hoD hcs hJ hI hz ho6 hk6 hc
              go_wp2
              go_still_tail 23, (by kernel_rfl)
              change wpList _ _ _ _ _ wr.drew
              go_wp2
              go_roundg (gk - 1)
              case rel => exact ⟨x + 1, by omega, by omega, by simp, H6.out⟩
              case measure => omega
            · obtain rfl : x = A := by omega
              have gx : decide (x < x) = false := decide_eq_false (by omega)
              rw [HROW.out] at ho
              have H6 := Lib.hid (And.intro ho hk)
              clear hbr hkw ho hk
              go_wp2
              go_roundg (GK - 1)
              case rel => exact ⟨y + 1, _, by omega, by omega, by simp, rfl, H6.out⟩
              case measure => omega
        · obtain rfl : y = H0 := by omega
          have gy : decide (y < y) = false := decide_eq_false (by omega)
          obtain ⟨r0, -⟩ := hbr.fh
          rw [HH.out.2.1] at r0
          have hoF : Own .u8 5 wr (.slice (some ⟨q, 0, none⟩) N N) (grown d.p W0 y W0 h0) := by unfold grown; rw [HN.out.1, HN.out.2.1]; exact ho
          have hT := turn_grow HB.out.1 HB.out.2.2.1 HB.out.2.2.2.2.1 HB.out.2.2.2.2.2.2 hkw hoF (fun b hb => by cases hb; rw [hq]; exact Nat.le_refl _) (W0 : Int) (h0 : Int)
          have HT := Lib.hid hT
          obtain ⟨s1, s1'⟩ := hbr.fw
          have hb1 := hbr.sw (W0 : Int)
          obtain ⟨s2, s2'⟩ := hb1.fh
          have hb2 := hb1.sh (h0 : Int)
          obtain ⟨s3, s3'⟩ := hb2.fp
          clear hT hbr hb1 hb2 hkw ho hk hoF
          go_wp2
          exact bodyPost_ret (v := .bool true) (by simp [results, Try.results47, go_sem]) rfl ⟨rfl, HT.out⟩
  · by_cases hw' : w0 = W0
    · have e1 : ((w0 : Int) == (W0 : Int)) = true := by simp; omega
      have e2 := HE.out.1 hw'
      have HW' := Lib.hid hw'
      clear hw'
      rcases s2 with ⟨p2, rfl⟩ | ⟨p2, rfl⟩
      · exact absurd e2 (by simp)
      · go_enter Try.func47, Try.ntmps47
        go_wp2_with (refine wpList_makeInts rfl (.tmp 66) (.tmp 66) 30 rfl 5 .u8 i0 1 Try.underlying30 HI.out.1 HI.out.2.1 HI.out.2.2.1 HI.out.2.2.2 .i64 .i64 _ _ N rfl rfl rfl rfl (by omega) (by simp [maxLen]; omega) ?_; intro w5 ho5 hk5 hz5; have ho5q : Own .u8 5 w5 (.slice (some ⟨q, 0, none⟩) N N) (List.replicate N 0) := (by rw [← hq]; exact ho5); have hkw5 : Kept (fun _ => False) W w5 := hk5; have hb5 : DBlk w5 a d pv nv := HB.out.1.kept hkw5 id; obtain ⟨c5, -⟩ := hb5.fh; rw [HH.out.2.1] at c5; have H5 := Lib.hid (And.intro ho5q (And.intro hkw5 hb5)); clear ho5 ho5q hk5 hkw5 hb5 hz5)
        go_loopg [8, 9] H0 (fun gg yv xv wr => ∃ (y : Nat) (ov : Value), H0 ≤ gg + y ∧ y ≤ H0 ∧ yv = .int .i64 (y : Int) ∧ ov = xv ∧ Own .u8 5 wr (.slice (some ⟨q, 0, none⟩) N N) (tab N (growF d.p W0 w0 y)) ∧ Kept (fun i => i = q) w5 wr)
        case atStart => exact ⟨0, _, by omega, by omega, rfl, rfl, by rw [← grow_start]; exact H5.out.1, Kept.refl _ _⟩
        case round =>
          obtain ⟨y, ov, hgg, hyH, rfl, rfl, ho, hk⟩ := hrel
          have HO := Lib.hid (And.intro ho hk)
          have hkw : Kept (fun _ => False) W wr := H5.out.2.1.trans (hk.mono fun i _ (hi : i = q) => Or.inr (by rw [hi, ← hq]; exact Nat.le_refl _))
          have hbr : DBlk wr a d pv nv := HB.out.1.kept hkw id
          have HKW := Lib.hid hkw
          obtain ⟨GK, hGK⟩ : ∃ G, gk = G := ⟨_, rfl⟩
          by_cases hy : y < H0
          · have gy : decide (y < H0) = true := decide_eq_true hy
            obtain ⟨r0, -⟩ := hbr.fh
            rw [HH.out.2.1] at r0
            obtain ⟨E, hE⟩ : ∃ E, C * y = E := ⟨_, rfl⟩
            obtain ⟨B, hB⟩ : ∃ B, A * y = B := ⟨_, rfl⟩
            obtain ⟨PL, hPL⟩ : ∃ PL, 4 * W0 * H0 = PL := ⟨_, rfl⟩
            have hEP : E + C ≤ PL := by
              rw [← hE, ← hPL, HN.out.2.2.2.2]
              have := Nat.mul_le_mul_left C hy
              rw [Nat.mul_succ] at this
              exact this
            have hBN : B + A ≤ N := by
              rw [← hB, ← HN.out.2.1]
              have := Nat.mul_le_mul_left A (show y + 1 ≤ h0 by have := HN.out.2.2.2.1; omega)
              rw [Nat.mul_succ] at this
              exact this
            have hPLb : PL ≤ N := by
              rw [← hPL, ← HN.out.2.1, ← HN.out.1]
              exact Nat.mul_le_mul (by have := HN.out.2.2.1; omega) HN.out.2.2.2.1
            have HROW := Lib.hid (show spl (tab N (growF d.p W0 w0 y)) B (tab C (fun x => d.p.getD (E + x) 0)) = tab N (growF d.p W0 w0 (y + 1)) from by
              have h1 := grow_row d.p W0 w0 h0 y HN.out.2.2.1.1 HN.out.2.2.1.2 (by have := HN.out.2.2.2.1; omega)
              rw [HN.out.1, HN.out.2.1, hB, HN.out.2.2.2.2, hE] at h1
              exact h1)
            have k2 : (C : Int) * (y : Int) = (E : Int) := by rw [← hE]; simp
            have k4 : (A : Int) * (y : Int) = (B : Int) := by rw [← hB]; simp
            have k5 : IntKind.i64.wrap (E : Int) = (E : Int) := IntWalk.i64_in _ (by omega)
            have k7 : IntKind.i64.wrap (B : Int) = (B : Int) := IntWalk.i64_in _ (by omega)
            have k8 : IntKind.i64.wrap ((y : Int) + 1) = (y : Int) + 1 := IntWalk.i64_in _ (by omega)
            have HPL2 := Lib.hid hPL
            clear hbr hkw ho hk hE hB hPL
            go_wp2
            go_loopg [9] C (fun gg xv wr => ∃ x : Nat, C ≤ gg + x ∧ x ≤ C ∧ xv = .int .i64 (x : Int) ∧ Own .u8 5 wr (.slice (some ⟨q, 0, none⟩) N N) (spl (tab N (growF d.p W0 w0 y)) B (tab x (fun x => d.p.getD (E + x) 0))) ∧ Kept (fun i => i = q) w5 wr)
            case atStart => exact ⟨0, by omega, by omega, rfl, by rw [spl_nil]; exact HO.out.1, HO.out.2⟩
            case round =>
              obtain ⟨x, hgx, hxC, rfl, ho, hk⟩ := hrel
              have HO2 := Lib.hid (And.intro ho hk)
              have hkw : Kept (fun _ => False) W wr := H5.out.2.1.trans (hk.mono fun i _ (hi : i = q) => Or.inr (by rw [hi, ← hq]; exact Nat.le_refl _))
              have hbr : DBlk wr a d pv nv := HB.out.1.kept hkw id
              have HKW2 := Lib.hid hkw
              obtain ⟨r2, -⟩ := hbr.fw
              rw [HH.out.1] at r2
              by_cases hx : x < C
              · have gx : decide (x < C) = true := decide_eq_true hx
                have hbr2 : DBlk wr.drew a d pv nv := hbr
                obtain ⟨s1, -⟩ := hbr2.fp
                obtain ⟨s2, -⟩ := hbr2.fw
                rw [HH.out.1] at s2
                obtain ⟨pa, pc, hpv, hps, hplc, hpcm, hpn, -⟩ := HB.out.2.1.shape
                rw [HPL.out, HPL2.out] at hpv hps hplc
                obtain ⟨b, off, rfl, hcs⟩ := hps.2.resolve_left (by omega)
                obtain ⟨J, hJ⟩ : ∃ J, E + x = J := ⟨_, rfl⟩
                obtain ⟨I, hI⟩ : ∃ I, B + x = I := ⟨_, rfl⟩
                have hc := HKW2.out.cell (hcs J (by omega)) id
                obtain ⟨z, hz⟩ : ∃ z, d.p.getD J 0 = z := ⟨_, rfl⟩
                rw [hz] at hc
                have sc : wr.drew.cell? ⟨b, off + J, none⟩ = some (.int .u8 z) := hc
                have hoD := ho.kept (Kept.refl (fun _ => False) wr).drew (fun _ _ => id)
                have hcI := hoD.at.2.2.2.1 I (by omega)
                have hfI := hoD.at.2.2.2.2 I
                obtain ⟨w6, hw6⟩ : ∃ w6, wr.drew.setCell ⟨q, I, none⟩ (.int .u8 z) = w6 := ⟨_, rfl⟩
                have ho6 : Own .u8 5 w6 (.slice (some ⟨q, 0, none⟩) N N) (spl (tab N (growF d.p W0 w0 y)) B (tab (x + 1) (fun x => d.p.getD (E + x) 0))) := by
                  have h1 := hoD.set (i := I) (by omega) z
                  rw [hw6] at h1
                  have h2 := spl_step (tab N (growF d.p W0 w0 y)) B x (fun x => d.p.getD (E + x) 0) (by rw [tab_length]; omega)
                  simp only [hJ, hz, hI] at h2
                  rw [h2] at h1
                  exact h1
                have hk6 : Kept (fun i => i = q) w5 w6 := by
                  rw [← hw6]
                  exact HO2.out.2.then ((Kept.refl (fun i => i = q) wr).drew.setCell (p := ⟨q, I, none⟩) (.inl rfl) _)
                have H6 := Lib.hid (And.intro ho6 hk6)
                have i1 : (E : Int) + (x : Int) = (J : Int) := by omega
                have i2 : (B : Int) + (x : Int) = (I : Int) := by omega
                have i3 : IntKind.i64.wrap (J : Int) = (J : Int) := IntWalk.i64_in _ (by omega)
                have i4 : IntKind.i64.wrap (I : Int) = (I : Int) := IntWalk.i64_in _ (by omega)
                have i5 : IntKind.i64.wrap ((x : Int) + 1) = (x : Int) + 1 := IntWalk.i64_in _ (by omega)
                have b1 : J < PL := by omega
                have b2 : I < N := by omega
                have b3 : (J : Int) < (PL : Int) := by omega
                have b4 : (I : Int) < (N : Int) := by omega
                subst hpv
                clear hbr hbr2 hkw ho hk hps hplc hpcm hpn hoD hcs hJ hI hz ho6 hk6 hc
                go_wp2
                go_still_tail 23, (by kernel_rfl)
                change wpList _ _ _ _ _ wr.drew
                go_wp2
                go_roundg (gk - 1)
                case rel => exact ⟨x + 1, by omega, by omega, by simp, H6.out⟩
                case measure => omega
              · obtain rfl : x = C := by omega
                have gx : decide (x < x) = false := decide_eq_false (by omega)
                rw [HROW.out] at ho
                have H6 := Lib.hid (And.intro ho hk)
                clear hbr hkw ho hk
                go_wp2
                go_roundg (GK - 1)
                case rel => exact ⟨y + 1, _, by omega, by omega, by simp, rfl, H6.out⟩
                case measure => omega
          · obtain rfl : y = H0 := by omega
            have gy : decide (y < y) = false := decide_eq_false (by omega)
            obtain ⟨r0, -⟩ := hbr.fh
            rw [HH.out.2.1] at r0
            have hoF : Own .u8 5 wr (.slice (some ⟨q, 0, none⟩) N N) (grown d.p W0 y w0 h0) := by unfold grown; rw [HN.out.1, HN.out.2.1]; exact ho
            have hT := turn_grow HB.out.1 HB.out.2.2.1 HB.out.2.2.2.2.1 HB.out.2.2.2.2.2.2 hkw hoF (fun b hb => by cases hb; rw [hq]; exact Nat.le_refl _) (w0 : Int) (h0 : Int)
            have HT := Lib.hid hT
            obtain ⟨s1, s1'⟩ := hbr.fw
            have hb1 := hbr.sw (w0 : Int)
            obtain ⟨s2, s2'⟩ := hb1.fh
            have hb2 := hb1.sh (h0 : Int)
            obtain ⟨s3, s3'⟩ := hb2.fp
            clear hT hbr hb1 hb2 hkw ho hk hoF
            go_wp2
            exact bodyPost_ret (v := .bool true) (by simp [results, Try.results47, go_sem]) rfl ⟨rfl, HT.out⟩
    · have e1 : ((w0 : Int) == (W0 : Int)) = false := by simp; omega
      clear hw'
      rcases s2 with ⟨p2, rfl⟩ | ⟨p2, rfl⟩
      · go_enter Try.func47, Try.ntmps47
        go_wp2_with (refine wpList_makeInts rfl (.tmp 66) (.tmp 66) 30 rfl 5 .u8 i0 1 Try.underlying30 HI.out.1 HI.out.2.1 HI.out.2.2.1 HI.out.2.2.2 .i64 .i64 _ _ N rfl rfl rfl rfl (by omega) (by simp [maxLen]; omega) ?_; intro w5 ho5 hk5 hz5; have ho5q : Own .u8 5 w5 (.slice (some ⟨q, 0, none⟩) N N) (List.replicate N 0) := (by rw [← hq]; exact ho5); have hkw5 : Kept (fun _ => False) W w5 := hk5; have hb5 : DBlk w5 a d pv nv := HB.out.1.kept hkw5 id; obtain ⟨c5, -⟩ := hb5.fh; rw [HH.out.2.1] at c5; have H5 := Lib.hid (And.intro ho5q (And.intro hkw5 hb5)); clear ho5 ho5q hk5 hkw5 hb5 hz5)
        go_loopg [8, 9] H0 (fun gg yv xv wr => ∃ (y : Nat) (ov : Value), H0 ≤ gg + y ∧ y ≤ H0 ∧ yv = .int .i64 (y : Int) ∧ ov = xv ∧ Own .u8 5 wr (.slice (some ⟨q, 0, none⟩) N N) (tab N (growF d.p W0 w0 y)) ∧ Kept (fun i => i = q) w5 wr)
        case atStart => exact ⟨0, _, by omega, by omega, rfl, rfl, by rw [← grow_start]; exact H5.out.1, Kept.refl _ _⟩
        case round =>
          obtain ⟨y, ov, hgg, hyH, rfl, rfl, ho, hk⟩ := hrel
          have HO := Lib.hid (And.intro ho hk)
          have hkw : Kept (fun _ => False) W wr := H5.out.2.1.trans (hk.mono fun i _ (hi : i = q) => Or.inr (by rw [hi, ← hq]; exact Nat.le_refl _))
          have hbr : DBlk wr a d pv nv := HB.out.1.kept hkw id
          have HKW := Lib.hid hkw
          obtain ⟨GK, hGK⟩ : ∃ G, gk = G := ⟨_, rfl⟩
          by_cases hy : y < H0
          · have gy : decide (y < H0) = true := decide_eq_true hy
            obtain ⟨r0, -⟩ := hbr.fh
            rw [HH.out.2.1] at r0
            obtain ⟨E, hE⟩ : ∃ E, C * y = E := ⟨_, rfl⟩
            obtain ⟨B, hB⟩ : ∃ B, A * y = B := ⟨_, rfl⟩
            obtain ⟨PL, hPL⟩ : ∃ PL, 4 * W0 * H0 = PL := ⟨_, rfl⟩
            have hEP : E + C ≤ PL := by
              rw [← hE, ← hPL, HN.out.2.2.2.2]
              have := Nat.mul_le_mul_left C hy
              rw [Nat.mul_succ] at this
              exact this
            have hBN : B + A ≤ N := by
              rw [← hB, ← HN.out.2.1]
              have := Nat.mul_le_mul_left A (show y + 1 ≤ H0 by have := HN.out.2.2.2.1; omega)
              rw [Nat.mul_succ] at this
              exact this
            have hPLb : PL ≤ N := by
              rw [← hPL, ← HN.out.2.1, ← HN.out.1]
              exact Nat.mul_le_mul (by have := HN.out.2.2.1; omega) HN.out.2.2.2.1
            have HROW := Lib.hid (show spl (tab N (growF d.p W0 w0 y)) B (tab C (fun x => d.p.getD (E + x) 0)) = tab N (growF d.p W0 w0 (y + 1)) from by
              have h1 := grow_row d.p W0 w0 H0 y HN.out.2.2.1.1 HN.out.2.2.1.2 (by have := HN.out.2.2.2.1; omega)
              rw [HN.out.1, HN.out.2.1, hB, HN.out.2.2.2.2, hE] at h1
              exact h1)
            have k2 : (C : Int) * (y : Int) = (E : Int) := by rw [← hE]; simp
            have k4 : (A : Int) * (y : Int) = (B : Int) := by rw [← hB]; simp
            have k5 : IntKind.i64.wrap (E : Int) = (E : Int) := IntWalk.i64_in _ (by omega)
            have k7 : IntKind.i64.wrap (B : Int) = (B : Int) := IntWalk.i64_in _ (by omega)
            have k8 : IntKind.i64.wrap ((y : Int) + 1) = (y : Int) + 1 := IntWalk.i64_in _ (by omega)
            have HPL2 := Lib.hid hPL
            clear hbr hkw ho hk hE hB hPL
            go_wp2
            go_loopg [9] C (fun gg xv wr => ∃ x : Nat, C ≤ gg + x ∧ x ≤ C ∧ xv = .int .i64 (x : Int) ∧ Own .u8 5 wr (.slice (some ⟨q, 0, none⟩) N N) (spl (tab N (growF d.p W0 w0 y)) B (tab x (fun x => d.p.getD (E + x) 0))) ∧ Kept (fun i => i = q) w5 wr)
            case atStart => exact ⟨0, by omega, by omega, rfl, by rw [spl_nil]; exact HO.out.1, HO.out.2⟩
            case round =>
              obtain ⟨x, hgx, hxC, rfl, ho, hk⟩ := hrel
              have HO2 := Lib.hid (And.intro ho hk)
              have hkw : Kept (fun _ => False) W wr := H5.out.2.1.trans (hk.mono fun i _ (hi : i = q) => Or.inr (by rw [hi, ← hq]; exact Nat.le_refl _))
              have hbr : DBlk wr a d pv nv := HB.out.1.kept hkw id
              have HKW2 := Lib.hid hkw
              obtain ⟨r2, -⟩ := hbr.fw
              rw [HH.out.1] at r2
              by_cases hx : x < C
              · have gx : decide (x < C) = true := decide_eq_true hx
                have hbr2 : DBlk wr.drew a d pv nv := hbr
                obtain ⟨s1, -⟩ := hbr2.fp
                obtain ⟨s2, -⟩ := hbr2.fw
                rw [HH.out.1] at s2
                obtain ⟨pa, pc, hpv, hps, hplc, hpcm, hpn, -⟩ := HB.out.2.1.shape
                rw [HPL.out, HPL2.out] at hpv hps hplc
                obtain ⟨b, off, rfl, hcs⟩ := hps.2.resolve_left (by omega)
                obtain ⟨J, hJ⟩ : ∃ J, E + x = J := ⟨_, rfl⟩
                obtain ⟨I, hI⟩ : ∃ I, B + x = I := ⟨_, rfl⟩
                have hc := HKW2.out.cell (hcs J (by omega)) id
                obtain ⟨z, hz⟩ : ∃ z, d.p.getD J 0 = z := ⟨_, rfl⟩
                rw [hz] at hc
                have sc : wr.drew.cell? ⟨b, off + J, none⟩ = some (.int .u8 z) := hc
                have hoD := ho.kept (Kept.refl (fun _ => False) wr).drew (fun _ _ => id)
                have hcI := hoD.at.2.2.2.1 I (by omega)
                have hfI := hoD.at.2.2.2.2 I
                obtain ⟨w6, hw6⟩ : ∃ w6, wr.drew.setCell ⟨q, I, none⟩ (.int .u8 z) = w6 := ⟨_, rfl⟩
                have ho6 : Own .u8 5 w6 (.slice (some ⟨q, 0, none⟩) N N) (spl (tab N (growF d.p W0 w0 y)) B (tab (x + 1) (fun x => d.p.getD (E + x) 0))) := by
                  have h1 := hoD.set (i := I) (by omega) z
                  rw [hw6] at h1
                  have h2 := spl_step (tab N (growF d.p W0 w0 y)) B x (fun x => d.p.getD (E + x) 0) (by rw [tab_length]; omega)
                  simp only [hJ, hz, hI] at h2
                  rw [h2] at h1
                  exact h1
                have hk6 : Kept (fun i => i = q) w5 w6 := by
                  rw [← hw6]
                  exact HO2.out.2.then ((Kept.refl (fun i => i = q) wr).drew.setCell (p := ⟨q, I, none⟩) (.inl rfl) _)
                have H6 := Lib.hid (And.intro ho6 hk6)
                have i1 : (E : Int) + (x : Int) = (J : Int) := by omega
                have i2 : (B : Int) + (x : Int) = (I : Int) := by omega
                have i3 : IntKind.i64.wrap (J : Int) = (J : Int) := IntWalk.i64_in _ (by omega)
                have i4 : IntKind.i64.wrap (I : Int) = (I : Int) := IntWalk.i64_in _ (by omega)
                have i5 : IntKind.i64.wrap ((x : Int) + 1) = (x : Int) + 1 := IntWalk.i64_in _ (by omega)
                have b1 : J < PL := by omega
                have b2 : I < N := by omega
                have b3 : (J : Int) < (PL : Int) := by omega
                have b4 : (I : Int) < (N : Int) := by omega
                subst hpv
                clear hbr hbr2 hkw ho hk hps hplc hpcm hpn hoD hcs hJ hI hz ho6 hk6 hc
                go_wp2
                go_still_tail 23, (by kernel_rfl)
                change wpList _ _ _ _ _ wr.drew
                go_wp2
                go_roundg (gk - 1)
                case rel => exact ⟨x + 1, by omega, by omega, by simp, H6.out⟩
                case measure => omega
              · obtain rfl : x = C := by omega
                have gx : decide (x < x) = false := decide_eq_false (by omega)
                rw [HROW.out] at ho
                have H6 := Lib.hid (And.intro ho hk)
                clear hbr hkw ho hk
                go_wp2
                go_roundg (GK - 1)
                case rel => exact ⟨y + 1, _, by omega, by omega, by simp, rfl, H6.out⟩
                case measure => omega
          · obtain rfl : y = H0 := by omega
            have gy : decide (y < y) = false := decide_eq_false (by omega)
            obtain ⟨r0, -⟩ := hbr.fh
            rw [HH.out.2.1] at r0
            have hoF : Own .u8 5 wr (.slice (some ⟨q, 0, none⟩) N N) (grown d.p W0 y w0 y) := by unfold grown; rw [HN.out.1, HN.out.2.1]; exact ho
            have hT := turn_grow HB.out.1 HB.out.2.2.1 HB.out.2.2.2.2.1 HB.out.2.2.2.2.2.2 hkw hoF (fun b hb => by cases hb; rw [hq]; exact Nat.le_refl _) (w0 : Int) (y : Int)
            have HT := Lib.hid hT
            obtain ⟨s1, s1'⟩ := hbr.fw
            have hb1 := hbr.sw (w0 : Int)
            obtain ⟨s2, s2'⟩ := hb1.fh
            have hb2 := hb1.sh (y : Int)
            obtain ⟨s3, s3'⟩ := hb2.fp
            clear hT hbr hb1 hb2 hkw ho hk hoF
            go_wp2
            exact bodyPost_ret (v := .bool true) (by simp [results, Try.results47, go_sem]) rfl ⟨rfl, HT.out⟩
      · go_enter Try.func47, Try.ntmps47
        go_wp2_with (refine wpList_makeInts rfl (.tmp 66) (.tmp 66) 30 rfl 5 .u8 i0 1 Try.underlying30 HI.out.1 HI.out.2.1 HI.out.2.2.1 HI.out.2.2.2 .i64 .i64 _ _ N rfl rfl rfl rfl (by omega) (by simp [maxLen]; omega) ?_; intro w5 ho5 hk5 hz5; have ho5q : Own .u8 5 w5 (.slice (some ⟨q, 0, none⟩) N N) (List.replicate N 0) := (by rw [← hq]; exact ho5); have hkw5 : Kept (fun _ => False) W w5 := hk5; have hb5 : DBlk w5 a d pv nv := HB.out.1.kept hkw5 id; obtain ⟨c5, -⟩ := hb5.fh; rw [HH.out.2.1] at c5; have H5 := Lib.hid (And.intro ho5q (And.intro hkw5 hb5)); clear ho5 ho5q hk5 hkw5 hb5 hz5)
        go_loopg [8, 9] H0 (fun gg yv xv wr => ∃ (y : Nat) (ov : Value), H0 ≤ gg + y ∧ y ≤ H0 ∧ yv = .int .i64 (y : Int) ∧ ov = xv ∧ Own .u8 5 wr (.slice (some ⟨q, 0, none⟩) N N) (tab N (growF d.p W0 w0 y)) ∧ Kept (fun i => i = q) w5 wr)
        case atStart => exact ⟨0, _, by omega, by omega, rfl, rfl, by rw [← grow_start]; exact H5.out.1, Kept.refl _ _⟩
        case round =>
          obtain ⟨y, ov, hgg, hyH, rfl, rfl, ho, hk⟩ := hrel
          have HO := Lib.hid (And.intro ho hk)
          have hkw : Kept (fun _ => False) W wr := H5.out.2.1.trans (hk.mono fun i _ (hi : i = q) => Or.inr (by rw [hi, ← hq]; exact Nat.le_refl _))
          have hbr : DBlk wr a d pv nv := HB.out.1.kept hkw id
          have HKW := Lib.hid hkw
          obtain ⟨GK, hGK⟩ : ∃ G, gk = G := ⟨_, rfl⟩
          by_cases hy : y < H0
          · have gy : decide (y < H0) = true := decide_eq_true hy
            obtain ⟨r0, -⟩ := hbr.fh
            rw [HH.out.2.1] at r0
            obtain ⟨E, hE⟩ : ∃ E, C * y = E := ⟨_, rfl⟩
            obtain ⟨B, hB⟩ : ∃ B, A * y = B := ⟨_, rfl⟩
            obtain ⟨PL, hPL⟩ : ∃ PL, 4 * W0 * H0 = PL := ⟨_, rfl⟩
            have hEP : E + C ≤ PL := by
              rw [← hE, ← hPL, HN.out.2.2.2.2]
              have := Nat.mul_le_mul_left C hy
              rw [Nat.mul_succ] at this
              exact this
            have hBN : B + A ≤ N := by
              rw [← hB, ← HN.out.2.1]
              have := Nat.mul_le_mul_left A (show y + 1 ≤ h0 by have := HN.out.2.2.2.1; omega)
              rw [Nat.mul_succ] at this
              exact this
            have hPLb : PL ≤ N := by
              rw [← hPL, ← HN.out.2.1, ← HN.out.1]
              exact Nat.mul_le_mul (by have := HN.out.2.2.1; omega) HN.out.2.2.2.1
            have HROW := Lib.hid (show spl (tab N (growF d.p W0 w0 y)) B (tab C (fun x => d.p.getD (E + x) 0)) = tab N (growF d.p W0 w0 (y + 1)) from by
              have h1 := grow_row d.p W0 w0 h0 y HN.out.2.2.1.1 HN.out.2.2.1.2 (by have := HN.out.2.2.2.1; omega)
              rw [HN.out.1, HN.out.2.1, hB, HN.out.2.2.2.2, hE] at h1
              exact h1)
            have k2 : (C : Int) * (y : Int) = (E : Int) := by rw [← hE]; simp
            have k4 : (A : Int) * (y : Int) = (B : Int) := by rw [← hB]; simp
            have k5 : IntKind.i64.wrap (E : Int) = (E : Int) := IntWalk.i64_in _ (by omega)
            have k7 : IntKind.i64.wrap (B : Int) = (B : Int) := IntWalk.i64_in _ (by omega)
            have k8 : IntKind.i64.wrap ((y : Int) + 1) = (y : Int) + 1 := IntWalk.i64_in _ (by omega)
            have HPL2 := Lib.hid hPL
            clear hbr hkw ho hk hE hB hPL
            go_wp2
            go_loopg [9] C (fun gg xv wr => ∃ x : Nat, C ≤ gg + x ∧ x ≤ C ∧ xv = .int .i64 (x : Int) ∧ Own .u8 5 wr (.slice (some ⟨q, 0, none⟩) N N) (spl (tab N (growF d.p W0 w0 y)) B (tab x (fun x => d.p.getD (E + x) 0))) ∧ Kept (fun i => i = q) w5 wr)
            case atStart => exact ⟨0, by omega, by omega, rfl, by rw [spl_nil]; exact HO.out.1, HO.out.2⟩
            case round =>
              obtain ⟨x, hgx, hxC, rfl, ho, hk⟩ := hrel
              have HO2 := Lib.hid (And.intro ho hk)
              have hkw : Kept (fun _ => False) W wr := H5.out.2.1.trans (hk.mono fun i _ (hi : i = q) => Or.inr (by rw [hi, ← hq]; exact Nat.le_refl _))
              have hbr : DBlk wr a d pv nv := HB.out.1.kept hkw id
              have HKW2 := Lib.hid hkw
              obtain ⟨r2, -⟩ := hbr.fw
              rw [HH.out.1] at r2
              by_cases hx : x < C
              · have gx : decide (x < C) = true := decide_eq_true hx
                have hbr2 : DBlk wr.drew a d pv nv := hbr
                obtain ⟨s1, -⟩ := hbr2.fp
                obtain ⟨s2, -⟩ := hbr2.fw
                rw [HH.out.1] at s2
                obtain ⟨pa, pc, hpv, hps, hplc, hpcm, hpn, -⟩ := HB.out.2.1.shape
                rw [HPL.out, HPL2.out] at hpv hps hplc
                obtain ⟨b, off, rfl, hcs⟩ := hps.2.resolve_left (by omega)
                obtain ⟨J, hJ⟩ : ∃ J, E + x = J := ⟨_, rfl⟩
                obtain ⟨I, hI⟩ : ∃ I, B + x = I := ⟨_, rfl⟩
                have hc := HKW2.out.cell (hcs J (by omega)) id
                obtain ⟨z, hz⟩ : ∃ z, d.p.getD J 0 = z := ⟨_, rfl⟩
                rw [hz] at hc
                have sc : wr.drew.cell? ⟨b, off + J, none⟩ = some (.int .u8 z) := hc
                have hoD := ho.kept (Kept.refl (fun _ => False) wr).drew (fun _ _ => id)
                have hcI := hoD.at.2.2.2.1 I (by omega)
                have hfI := hoD.at.2.2.2.2 I
                obtain ⟨w6, hw6⟩ : ∃ w6, wr.drew.setCell ⟨q, I, none⟩ (.int .u8 z) = w6 := ⟨_, rfl⟩
                have ho6 : Own .u8 5 w6 (.slice (some ⟨q, 0, none⟩) N N) (spl (tab N (growF d.p W0 w0 y)) B (tab (x + 1) (fun x => d.p.getD (E + x) 0))) := by
                  have h1 := hoD.set (i := I) (by omega) z
                  rw [hw6] at h1
                  have h2 := spl_step (tab N (growF d.p W0 w0 y)) B x (fun x => d.p.getD (E + x) 0) (by rw [tab_length]; omega)
                  simp only [hJ, hz, hI] at h2
                  rw [h2] at h1
                  exact h1
                have hk6 : Kept (fun i => i = q) w5 w6 := by
                  rw [← hw6]
                  exact HO2.out.2.then ((Kept.refl (fun i => i = q) wr).drew.setCell (p := ⟨q, I, none⟩) (.inl rfl) _)
                have H6 := Lib.hid (And.intro ho6 hk6)
                have i1 : (E : Int) + (x : Int) = (J : Int) := by omega
                have i2 : (B : Int) + (x : Int) = (I : Int) := by omega
                have i3 : IntKind.i64.wrap (J : Int) = (J : Int) := IntWalk.i64_in _ (by omega)
                have i4 : IntKind.i64.wrap (I : Int) = (I : Int) := IntWalk.i64_in _ (by omega)
                have i5 : IntKind.i64.wrap ((x : Int) + 1) = (x : Int) + 1 := IntWalk.i64_in _ (by omega)
                have b1 : J < PL := by omega
                have b2 : I < N := by omega
                have b3 : (J : Int) < (PL : Int) := by omega
                have b4 : (I : Int) < (N : Int) := by omega
                subst hpv
                clear hbr hbr2 hkw ho hk hps hplc hpcm hpn hoD hcs hJ hI hz ho6 hk6 hc
                go_wp2
                go_still_tail 23, (by kernel_rfl)
                change wpList _ _ _ _ _ wr.drew
                go_wp2
                go_roundg (gk - 1)
                case rel => exact ⟨x + 1, by omega, by omega, by simp, H6.out⟩
                case measure => omega
              · obtain rfl : x = C := by omega
                have gx : decide (x < x) = false := decide_eq_false (by omega)
                rw [HROW.out] at ho
                have H6 := Lib.hid (And.intro ho hk)
                clear hbr hkw ho hk
                go_wp2
                go_roundg (GK - 1)
                case rel => exact ⟨y + 1, _, by omega, by omega, by simp, rfl, H6.out⟩
                case measure => omega
          · obtain rfl : y = H0 := by omega
            have gy : decide (y < y) = false := decide_eq_false (by omega)
            obtain ⟨r0, -⟩ := hbr.fh
            rw [HH.out.2.1] at r0
            have hoF : Own .u8 5 wr (.slice (some ⟨q, 0, none⟩) N N) (grown d.p W0 y w0 h0) := by unfold grown; rw [HN.out.1, HN.out.2.1]; exact ho
            have hT := turn_grow HB.out.1 HB.out.2.2.1 HB.out.2.2.2.2.1 HB.out.2.2.2.2.2.2 hkw hoF (fun b hb => by cases hb; rw [hq]; exact Nat.le_refl _) (w0 : Int) (h0 : Int)
            have HT := Lib.hid hT
            obtain ⟨s1, s1'⟩ := hbr.fw
            have hb1 := hbr.sw (w0 : Int)
            obtain ⟨s2, s2'⟩ := hb1.fh
            have hb2 := hb1.sh (h0 : Int)
            obtain ⟨s3, s3'⟩ := hb2.fp
            clear hT hbr hb1 hb2 hkw ho hk hoF
            go_wp2
            exact bodyPost_ret (v := .bool true) (by simp [results, Try.results47, go_sem]) rfl ⟨rfl, HT.out⟩
end Go.Proofs.Ytomcjdonacckfaa.R
