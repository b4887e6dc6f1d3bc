/- The document's decoder: GrowD, printed by port_rdec.py from the program's side. -/
import Derived.Test.YtomcjdonacckfaaNumR
import Derived.Test.YtomcjdonacckfaaGrowD
namespace Go.Proofs.Ytomcjdonacckfaa.R
open Go.Proofs.Ytomcjdonacckfaa Go.RowKit
set_option linter.unusedVariables false
set_option linter.unusedSimpArgs false
theorem max_pick {w0 W0 W1 : Nat} (h : Picks w0 W0 W1) : (if (w0 : Int) < (W0 : Int) then (W0 : Int) else (w0 : Int)) = (W1 : Int) ∧ (if w0 < W0 then (W0 : Int) else (w0 : Int)) = (W1 : Int) := by
  rcases h with ⟨h, rfl⟩ | ⟨h, rfl⟩
  · exact ⟨if_pos (by omega), if_pos h⟩
  · exact ⟨if_neg (by omega), if_neg (by omega)⟩
set_option maxRecDepth 100000 in
set_option maxHeartbeats 4000000 in
theorem grow_same (G : Nat → Prop) (d : Dec) (W : World) (a w0 h0 W0 H0 W1 H1 : Nat) (h : DOwn G W a d) (hw : d.w = (W0 : Int)) (hh : d.h = (H0 : Int)) (hp1 : Picks w0 W0 W1) (hp2 : Picks h0 H0 H1) (he : W1 = W0 ∧ H1 = H0) :
    Calls Try.prog 47 #[.pointer (some ⟨a, 0, none⟩), .int .i64 w0, .int .i64 h0] W fun e w' => e = .returned (.bool true) ∧ Turn G W w' a d := by
  have HD := Lib.hid h
  obtain ⟨pv, nv, hb, -, -, -, -, -, -⟩ := h
  have hb2 : DBlk W a d pv nv := hb
  obtain ⟨cw, -⟩ := hb.fw
  obtain ⟨ch, -⟩ := hb.fh
  obtain ⟨dw, -⟩ := hb2.fw
  obtain ⟨dh, -⟩ := hb2.fh
  rw [hw] at cw dw
  rw [hh] at ch dh
  obtain ⟨m1, m2⟩ := max_pick hp1
  obtain ⟨m3, m4⟩ := max_pick hp2
  obtain ⟨rfl, rfl⟩ := he
  clear hb hb2 hw hh hp1 hp2
  go_enter Try.func47, Try.ntmps47
  go_wp2
  all_goals exact bodyPost_ret (v := .bool true) (by simp [results, Try.results47, go_sem]) rfl ⟨rfl, Turn.refl HD.out⟩
theorem Turn.nilP {G : Nat → Prop} {w W : World} {a : Nat} {d : Dec} (h : Turn G w W a d) : Turn G w (W.setCell ⟨a, 775, none⟩ (.slice none 0 0)) a { d with p := [] } := by
  obtain ⟨G', ⟨pv, nv, hb, hp, hn, h1, h2, h3, hG⟩, g2, hk⟩ := h
  exact Turn.then g2 hk (turn_p hb hn h2 hG (Kept.refl _ _) (Own.nil _ _ _) (fun b hb => by cases hb))
set_option maxRecDepth 100000 in
set_option maxHeartbeats 8000000 in
theorem grow_full (G : Nat → Prop) (d : Dec) (W : World) (a w0 h0 W0 H0 W1 H1 M K1 K2 : Nat) (h : DOwn G W a d) (hw : d.w = (W0 : Int)) (hh : d.h = (H0 : Int)) (hm : d.most = (M : Int)) (hp1 : Picks w0 W0 W1) (hp2 : Picks h0 H0 H1) (he : ¬ (W1 = W0 ∧ H1 = H0))
    (hH : 1 ≤ H1 ∧ H1 ≤ 16384) (hM : M ≤ 1073741824) (hK1 : M / 4 = K1) (hK2 : K1 / H1 = K2) (hlt : K2 < W1) :
    Calls Try.prog 47 #[.pointer (some ⟨a, 0, none⟩), .int .i64 w0, .int .i64 h0] W fun e w' => e = .returned (.bool false) ∧ Turn G W w' a { d with full := true, p := [] } := by
  have HD := Lib.hid h
  obtain ⟨pv, nv, hb, hpo, hno, o1, o2, o3, hG⟩ := h
  have HB := Lib.hid (And.intro hb (And.intro hpo (And.intro hno (And.intro o1 (And.intro o2 (And.intro o3 hG))))))
  have hb2 : DBlk W a d pv nv := hb
  obtain ⟨cw, -⟩ := hb.fw
  obtain ⟨ch, -⟩ := hb.fh
  obtain ⟨dw, -⟩ := hb2.fw
  obtain ⟨dh, -⟩ := hb2.fh
  obtain ⟨dm, -⟩ := hb2.fmost
  rw [hw] at cw dw
  rw [hh] at ch dh
  rw [hm] at dm
  obtain ⟨m1, m2⟩ := max_pick hp1
  obtain ⟨m3, m4⟩ := max_pick hp2
  have HH := Lib.hid (And.intro hw (And.intro hh hm))
  have HP := Lib.hid (And.intro hp1 hp2)
  have hK1l : K1 ≤ 268435456 := by omega
  have hK2l : K2 ≤ 268435456 := by rw [← hK2]; exact Nat.le_trans (Nat.div_le_self _ _) hK1l
  have v1 : (M : Int).tdiv 4 = (K1 : Int) := by rw [Int.tdiv_eq_ediv_of_nonneg (by omega)]; omega
  have v1' : (M : Int) / 4 = (K1 : Int) := by omega
  have v2 : (K1 : Int).tdiv (H1 : Int) = (K2 : Int) := by rw [Int.tdiv_eq_ediv_of_nonneg (by omega), ← hK2]; rfl
  have v2' : (K1 : Int) / (H1 : Int) = (K2 : Int) := by rw [← hK2]; rfl
  have n1 : IntKind.i64.wrap (K1 : Int) = (K1 : Int) := IntWalk.i64_in _ (by omega)
  have n2 : IntKind.i64.wrap (K2 : Int) = (K2 : Int) := IntWalk.i64_in _ (by omega)
  have nz : ¬ H1 = 0 := by omega
  have nz' : ¬ (H1 : Int) = 0 := by omega
  have gh : decide (0 < H1) = true := decide_eq_true (by omega)
  have HK := Lib.hid (And.intro hK1 hK2)
  clear hb hb2 hw hh hm hp1 hp2 hpo hno o1 o2 o3 hG hK1 hK2
  have gq : decide (K2 < W1) = true := decide_eq_true hlt
  have hc1 : DBlk W a d pv nv := HB.out.1
  obtain ⟨cf, cf'⟩ := hc1.ffull
  have hc2 := hc1.sfull true
  obtain ⟨V1, hV1⟩ : ∃ V, W.setCell ⟨a, 778, none⟩ (.bool true) = V := ⟨_, rfl⟩
  have hT1 : Turn G W V1 a { d with full := true } := by rw [← hV1]; exact (Turn.refl HD.out).set (fun _ _ h => h.sfull true) rfl rfl
  rw [hV1] at hc2
  obtain ⟨cp, cp'⟩ := hc2.fp
  have HT1 := Lib.hid hT1
  clear hc1 hc2 hT1
  have hp1 := HP.out.1
  have hp2 := HP.out.2
  unfold Picks at hp1 hp2
  have s1 : (decide (w0 < W0) = true ∧ W0 = W1) ∨ (decide (w0 < W0) = false ∧ w0 = W1) := by
    rcases hp1 with ⟨h, e⟩ | ⟨h, e⟩
    · exact .inl ⟨decide_eq_true h, e.symm⟩
    · exact .inr ⟨decide_eq_false (by omega), e.symm⟩
  have s2 : (decide (h0 < H0) = true ∧ H0 = H1) ∨ (decide (h0 < H0) = false ∧ h0 = H1) := by
    rcases hp2 with ⟨h, e⟩ | ⟨h, e⟩
    · exact .inl ⟨decide_eq_true h, e.symm⟩
    · exact .inr ⟨decide_eq_false (by omega), e.symm⟩
  clear hp1 hp2 m1 m2 m3 m4
  have hne : W1 = W0 → ((H1 : Int) == (H0 : Int)) = false := fun h => by simp; omega
  have HE := Lib.hid (And.intro hne hH.1)
  clear he hne
  rcases s1 with ⟨p1, rfl⟩ | ⟨p1, rfl⟩
  · rcases s2 with ⟨p2, rfl⟩ | ⟨p2, rfl⟩
    · exact absurd (HE.out.1 rfl) (by simp)
    · have e2 := HE.out.1 rfl
      have gh : decide (0 < h0) = true := decide_eq_true HE.out.2
      go_enter Try.func47, Try.ntmps47
      go_wp2
      exact bodyPost_ret (v := .bool false) (by simp [results, Try.results47, go_sem]) rfl ⟨rfl, HT1.out.nilP⟩
  · by_cases hw' : w0 = W0
    · have e1 : ((w0 : Int) == (W0 : Int)) = true := by simp; omega
      have e2 := HE.out.1 hw'
      have HW' := Lib.hid hw'
      clear hw'
      rcases s2 with ⟨p2, rfl⟩ | ⟨p2, rfl⟩
      · exact absurd e2 (by simp)
      · go_enter Try.func47, Try.ntmps47
        go_wp2
        exact bodyPost_ret (v := .bool false) (by simp [results, Try.results47, go_sem]) rfl ⟨rfl, HT1.out.nilP⟩
    · have e1 : ((w0 : Int) == (W0 : Int)) = false := by simp; omega
      clear hw'
      rcases s2 with ⟨p2, rfl⟩ | ⟨p2, rfl⟩
      · go_enter Try.func47, Try.ntmps47
        go_wp2
        exact bodyPost_ret (v := .bool false) (by simp [results, Try.results47, go_sem]) rfl ⟨rfl, HT1.out.nilP⟩
      · go_enter Try.func47, Try.ntmps47
        go_wp2
        exact bodyPost_ret (v := .bool false) (by simp [results, Try.results47, go_sem]) rfl ⟨rfl, HT1.out.nilP⟩
theorem size5 : (Try.prog.info? 5).map (·.size) = some 1 := by kernel_rfl
theorem tinfo5 : (Try.prog.info? 5).map (fun i => (i.zero, i.size, i.bytes)) = some (some (.int .u8 0), 1, 1) := by kernel_rfl
theorem turn_grow {G : Nat → Prop} {W w5 : World} {a : Nat} {d : Dec} {pv nv v5 : Value} {ps : List Int} (hb : DBlk W a d pv nv) (hn : Own .i64 3 W nv d.n) (h2 : nv.ownBlock ≠ some a)
    (hG : ∀ i, G i ↔ i = a ∨ pv.ownBlock = some i ∨ nv.ownBlock = some i) (hk5 : Kept (fun _ => False) W w5) (ho5 : Own .u8 5 w5 v5 ps) (hpr5 : ∀ b, v5.ownBlock = some b → W.heap.size ≤ b) (x y : Int) :
    Turn G W (((w5.setCell ⟨a, 773, none⟩ (.int .i64 x)).setCell ⟨a, 774, none⟩ (.int .i64 y)).setCell ⟨a, 775, none⟩ v5) a { d with w := x, h := y, p := ps } := by
  have haW := hb.lt
  have hnl := hn.lt
  have h5a : v5.ownBlock ≠ some a := fun h => by have := hpr5 a h; omega
  have hk6 : Kept (fun j => j = a) w5 (((w5.setCell ⟨a, 773, none⟩ (.int .i64 x)).setCell ⟨a, 774, none⟩ (.int .i64 y)).setCell ⟨a, 775, none⟩ v5) := (((Kept.refl (fun j => j = a) w5).setCell (p := ⟨a, 773, none⟩) (.inl rfl) _).setCell (p := ⟨a, 774, none⟩) (.inl rfl) _).setCell (p := ⟨a, 775, none⟩) (.inl rfl) v5
  refine ⟨fun i => i = a ∨ v5.ownBlock = some i ∨ nv.ownBlock = some i, ⟨v5, nv, ((((hb.kept hk5 id).sw x).sh y).sp v5 ps), ho5.kept hk6 (fun b hb hba => h5a (by rw [hb]; exact congrArg some hba)),
    (hn.kept hk5 (fun _ _ => id)).kept hk6 (fun b hb hba => h2 (by rw [hb]; exact congrArg some hba)), h5a, h2, ?_, fun _ => Iff.rfl⟩, ?_, ?_⟩
  · intro b hb hv
    have := hpr5 b hb
    have := hnl b hv
    omega
  · intro i hi
    rcases hi with h | h | h
    · exact .inl ((hG i).2 (.inl h))
    · exact .inr (hpr5 i h)
    · exact .inl ((hG i).2 (.inr (.inr h)))
  · exact (hk5.mono fun _ _ h => h.elim).then (hk6.mono fun i _ hi => (hG i).2 (.inl hi))
theorem SlAt.up2 {k : IntKind} {w w' : World} {a0 : Option Addr} {len : Nat} {xs : List Int} (h : SlAt k w a0 len xs) (hk : Kept (fun _ => False) w w') : SlAt k w' a0 len xs := h.kept hk (fun _ _ _ _ => id)
theorem SlAt.sub {k : IntKind} {w : World} {b off len at_ n : Nat} {xs : List Int} (h : SlAt k w (some ⟨b, off, none⟩) len xs) (hn : at_ + n ≤ len) :
    SlAt k w (some ⟨b, off + at_, none⟩) n ((xs.drop at_).take n) := by
  obtain ⟨h1, h2⟩ := h
  refine ⟨by simp; omega, ?_⟩
  by_cases h0 : n = 0
  · exact .inl h0
  · obtain ⟨b', off', he, hc⟩ := h2.resolve_left (by omega)
    cases he
    refine .inr ⟨b, off + at_, rfl, fun j hj => ?_⟩
    rw [show off + at_ + j = off + (at_ + j) by omega, hc _ (by omega)]
    simp [hj]
end Go.Proofs.Ytomcjdonacckfaa.R
