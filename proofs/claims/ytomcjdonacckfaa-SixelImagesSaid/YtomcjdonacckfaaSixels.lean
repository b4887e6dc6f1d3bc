/- An image's signs: sixels. -/
import Derived.Test.YtomcjdonacckfaaImgP
import Derived.Test.YtomcjdonacckfaaLRooms
import Derived.Test.YtomcjdonacckfaaMark
import Derived.Deep.Grids
namespace Go.Proofs.Ytomcjdonacckfaa
open Go.RowKit
set_option linter.unusedVariables false
set_option linter.unusedSimpArgs false
def bvals (x : List Nat) : List Value := (ints x).map (Value.int .u8)
theorem bvals_append (x y : List Nat) : bvals (x ++ y) = bvals x ++ bvals y := by unfold bvals; rw [ints_append, List.map_append]
theorem bvals_len (x : List Nat) : (bvals x).length = x.length := by simp [bvals, ints]
theorem bvals_at {x : List Nat} {j : Nat} {u : Value} (h : (bvals x)[j]? = some u) : u = .int .u8 ((ints x).getD j 0) := by
  unfold bvals at h
  rw [List.getElem?_map, Option.map_eq_some_iff] at h
  obtain ⟨q, hq, rfl⟩ := h
  rw [List.getD_eq_getElem?_getD, hq]; rfl
/-- A string made a slice of bytes that may be appended to. -/
theorem bytes_convX (w : World) (x : List Nat) (hx : ∀ c ∈ x, c < 256) (S : ByteArray) (hS : S = nstr x) (hl : x.length ≤ 1000000) : ∃ w2 cap, (convert 9 30 (.string S)).run Try.prog w = .ok (.slice (some ⟨w.heap.size, 0, none⟩) x.length cap) w2 ∧ OwnX 5 w2 (.slice (some ⟨w.heap.size, 0, none⟩) x.length cap) (bvals x) ∧ Kept (fun _ => False) w w2 ∧ w2.heap.size = w.heap.size + 1 := by
  obtain ⟨w2, cap, h1, h2, h3, h4⟩ := bytes_conv w x hx S hS
  refine ⟨w2, cap, h1, ?_, h3, h4⟩
  subst hS
  have h := Lib.run_convert_string_bytes (P := Try.prog) w 9 30 5 (nstr x) Try.underlying9 Try.underlying30 Try.underlying5
  rw [nstr_size] at h
  rw [h1] at h
  injection h with e1 e2
  injection e1 with _ _ e3
  have hge := grownCap_ge w x.length 0 5
  have hcm := grownCap_le_maxLen w x.length 0 5 (by simp only [maxLen]; omega)
  have hcsz : (Lib.bytesCells w 5 (nstr x)).size = cap := by
    unfold Lib.bytesCells
    rw [nstr_size, e3]
    simp
    have h9 : (nstr x).data.size = x.length := nstr_size x
    have h8 : (nstr x).size = x.length := nstr_size x
    omega
  right
  refine ⟨w.heap.size, cap, Lib.bytesCells w 5 (nstr x), ((Lib.bytesCells w 5 (nstr x)).size, (Lib.bytesCells w 5 (nstr x)).size + 1), by rw [bvals_len], by rw [e2]; exact Lib.bytesWorld_at_new w 5 _, fun i hi => by simp only; omega, by rw [bvals_len, e3]; exact hge, by rw [e3]; exact hcm, hcsz, ?_⟩
  rw [bvals_len]
  apply List.ext_getElem?
  intro j
  by_cases hj : j < x.length
  · rw [List.getElem?_take_of_lt hj]
    have h8 := Lib.bytesWorld_cell w 5 (nstr x) j (by rw [nstr_size]; exact hj)
    rw [strOf_nums_bytes x hx j hj] at h8
    rw [blk_cell (Lib.bytesWorld_at_new w 5 (nstr x)) j] at h8
    rw [Array.getElem?_toList]
    rw [h8]
    unfold bvals
    rw [List.getElem?_map, List.getD_eq_getElem?_getD, List.getElem?_eq_getElem (show j < (ints x).length by simpa [ints] using hj)]
    rfl
  · rw [List.getElem?_eq_none (by simp; omega), List.getElem?_eq_none (by rw [bvals_len]; omega)]
/-- A slice of bools as it comes in. -/
def BoolsAt (w : World) (a : Option Addr) (len : Nat) (B : Nat → Bool) : Prop :=
  (len = 0 ∨ ∃ b off, a = some ⟨b, off, none⟩ ∧ ∀ j, j < len → w.cell? ⟨b, off + j, none⟩ = some (.bool (B j))) ∧ len ≤ maxLen
theorem BoolsAt.kept {S : Nat → Prop} {w w' : World} {a : Option Addr} {len : Nat} {B : Nat → Bool} (h : BoolsAt w a len B) (hk : Kept (fun _ => False) w w') : BoolsAt w' a len B := by
  obtain ⟨h | ⟨b, off, rfl, hc⟩, hl⟩ := h
  · exact ⟨.inl h, hl⟩
  · exact ⟨.inr ⟨b, off, rfl, fun j hj => hk.cell (hc j hj) id⟩, hl⟩
def onF (len : Nat) (B : Nat → Bool) (j : Nat) : Bool := decide (j < len) && B j
theorem rowT_len (on : Nat → Bool) (w h b x : Nat) : (rowT on w h b x).length = x := by
  induction x with
  | zero => rfl
  | succ x ih => rw [rowT, List.length_append, ih]; rfl
theorem bandT_len (on : Nat → Bool) (w h b : Nat) : (bandT on w h b).length = b * (w + 1) := by
  induction b with
  | zero => simp [bandT]
  | succ b ih => rw [bandT, List.length_append, List.length_append, ih, rowT_len, Nat.add_mul]; simp; omega
theorem OwnX.slAt {w : World} {v : Value} {x : List Nat} (h : OwnX 5 w v (bvals x)) : ∃ a cap, v = .slice a x.length cap ∧ SlAt .u8 w a x.length (ints x) ∧ x.length ≤ cap ∧ cap ≤ maxLen ∧ (a = none → x.length = 0 ∧ cap = 0) ∧ ∀ b off, a = some ⟨b, off, none⟩ → v.ownBlock = some b := by
  obtain ⟨a, cap, h1, h2, h3, h4, h5, h6⟩ := h.shape
  rw [bvals_len] at h1 h2 h4 h6
  refine ⟨a, cap, h1, ⟨by simp [ints], ?_⟩, h2, h3, h4, fun b off h => (h5 b off h).2⟩
  rcases h6 with h6 | ⟨b, hb, hc⟩
  · exact .inl h6
  · refine .inr ⟨b, 0, hb, fun j hj => ?_⟩
    rw [Nat.zero_add]
    refine hc j _ ?_
    unfold bvals
    rw [List.getElem?_map, List.getD_eq_getElem?_getD, List.getElem?_eq_getElem (show j < (ints x).length by simpa [ints] using hj)]
    rfl
theorem news_one {w : World} (u : Value) (e : TypeId) : ∀ j v, ([u] : List Value)[j]? = some v → (w.alloc (.cells #[u] e)).cell? ((⟨w.heap.size, 0, none⟩ : Addr).add j) = some v := by
  intro j v h
  have hj : j = 0 := by
    rcases j with _ | j
    · rfl
    · simp at h
  subst hj
  have hadd : (⟨w.heap.size, 0, none⟩ : Addr).add 0 = ⟨w.heap.size, 0, none⟩ := by unfold Addr.add; split <;> simp_all
  rw [hadd, blk_cell (blk_new w _)]
  simpa using h
theorem own_prov {w w' : World} {v v' : Value} {e : TypeId} {B : Nat} (hp : v'.ownBlock = v.ownBlock ∨ v'.ownBlock = some w.heap.size) (hB : B ≤ w.heap.size) (hv : ∀ b, v.ownBlock = some b → B ≤ b) : ∀ b, v'.ownBlock = some b → B ≤ b := by
  intro b hb
  rcases hp with h1 | h1 <;> rw [h1] at hb
  · exact hv b hb
  · cases hb; exact hB
theorem or_bit : ∀ k : Nat, k < 6 → ∀ v : Nat, v < 64 → v < 2 ^ k → bits BinOp.or .u8 (v : Int) ((2 ^ k : Nat) : Int) = ((v + 2 ^ k : Nat) : Int) := by decide
set_option maxRecDepth 100000 in
set_option maxHeartbeats 16000000 in
theorem sixels_any (w h red : Nat) (a0 : Option Addr) (len cap : Nat) (B : Nat → Bool) (W : World) (hw : 1 ≤ w ∧ w ≤ 40) (hh : 1 ≤ h ∧ h ≤ 40) (hr : red ≤ 100) (hl : len ≤ 2000) (hb : BoolsAt W a0 len B) :
    Calls Try.prog 21 #[.int .i64 w, .int .i64 h, .slice a0 len cap, .int .i64 red] W fun e w' => ∃ s n c b, h ≤ 6 * b ∧ 6 * b < h + 6 ∧ e = .returned (.slice s n c) ∧ SlAt .u8 w' s n (ints ([35, 49, 59, 50, 59] ++ digs red ++ [59, 48, 59, 48] ++ bandT (onF len B) w h b)) ∧ n ≤ c ∧ c ≤ maxLen ∧ (s = none → n = 0 ∧ c = 0) ∧ Kept (fun _ => False) W w' ∧ ∀ b off, s = some ⟨b, off, none⟩ → W.heap.size ≤ b := by
  have HDC := Lib.hid (decimal_any red (by omega))
  have l1 := digs_len red (by omega)
  obtain ⟨D1, hD1⟩ : ∃ D, nstr (digs red) = D := ⟨_, rfl⟩
  rw [hD1] at HDC
  obtain ⟨S1, hS1⟩ : ∃ S, ({ data := #[35, 49, 59, 50, 59] } : ByteArray) ++ D1 = S := ⟨_, rfl⟩
  obtain ⟨S2, hS2⟩ : ∃ S, S1 ++ ({ data := #[59, 48, 59, 48] } : ByteArray) = S := ⟨_, rfl⟩
  have t1 : S1 = nstr ([35, 49, 59, 50, 59] ++ digs red) := by rw [← hS1, ← hD1]; exact nstr_append [35, 49, 59, 50, 59] _
  have t2 : S2 = nstr ([35, 49, 59, 50, 59] ++ digs red ++ [59, 48, 59, 48]) := by rw [← hS2, t1]; exact nstr_append _ [59, 48, 59, 48]
  have z1 : ¬ (9223372036854775807 : Int) < 5 + (D1.size : Int) := by rw [← hD1, nstr_size]; omega
  have z2 : ¬ (9223372036854775807 : Int) < (S1.size : Int) + 4 := by rw [t1, nstr_size]; simp; omega
  have q1 : ((ByteArray.mk #[35, 49, 59, 50, 59]).size : Int) = 5 := rfl
  have q2 : ((ByteArray.mk #[59, 48, 59, 48]).size : Int) = 4 := rfl
  obtain ⟨X0, hX0⟩ : ∃ X, [35, 49, 59, 50, 59] ++ digs red ++ [59, 48, 59, 48] = X := ⟨_, rfl⟩
  have hX1 : ∀ c ∈ X0, c < 256 := by
    rw [← hX0]
    intro c hc
    simp only [List.mem_append, List.mem_cons, List.not_mem_nil, or_false] at hc
    rcases hc with (h | h) | h
    · omega
    · exact digs_256 _ c h
    · omega
  have hX2 : X0.length ≤ 20 := by rw [← hX0]; simp; omega
  rw [hX0] at t2 ⊢
  have HX := Lib.hid (And.intro t2 (And.intro hX1 hX2))
  have HB := Lib.hid hb
  obtain ⟨i0, hi, hz0, hz1, hz2⟩ := info_parts Try.infoByte
  have HI := Lib.hid (And.intro hi (And.intro hz0 (And.intro hz1 hz2)))
  clear hi hz0 hz1 hz2 t1 t2 hX0 hX1 hX2 hb hD1 l1
  obtain ⟨ON, hON⟩ : ∃ f, onF len B = f := ⟨_, rfl⟩
  rw [hON]
  have HON := Lib.hid hON
  clear hON
  go_enter Try.func21, Try.ntmps21
  go_wp2_with fail
  refine (HDC.out _).mono ?_
  rintro e w1 ⟨rfl, hk1⟩
  obtain ⟨w2, cap2, hcv, ho2, hk2, hz2⟩ := bytes_convX w1 X0 HX.out.2.1 S2 HX.out.1 (by have := HX.out.2.2; omega)
  have HO2 := Lib.hid (And.intro ho2 (And.intro (hk1.then hk2) (show W.heap.size ≤ w1.heap.size from hk1.size)))
  clear hk1 ho2 hk2 hz2
  go_wp2
  go_loopg [9, 10, 11, 12, 13, 14] 8 (fun gg bv yv _ _ _ _ wr => ∃ b : Nat, 8 ≤ gg + b ∧ 6 * b < h + 6 ∧ yv = .int .i64 ((6 * b : Nat) : Int) ∧ OwnX 5 wr bv (bvals (X0 ++ bandT ON w h b)) ∧ Kept (fun _ => False) W wr ∧ ∀ q, bv.ownBlock = some q → W.heap.size ≤ q)
  case atStart => exact ⟨0, by omega, by omega, rfl, by simpa [bandT] using HO2.out.1, HO2.out.2.1, fun q hq => by cases hq; exact HO2.out.2.2⟩
  case round =>
    obtain ⟨b, hgg, hb6, rfl, ho, hk, hob⟩ := hrel
    have HO := Lib.hid (And.intro ho (And.intro hk hob))
    clear ho hk hob
    obtain ⟨Y, hY⟩ : ∃ Y, 6 * b = Y := ⟨_, rfl⟩
    rw [hY]
    have HY := Lib.hid hY
    have hY46 : Y < h + 6 := by omega
    by_cases hbh : Y < h
    · have g0 : decide (Y < h) = true := decide_eq_true hbh
      have g0' : decide ((Y : Int) < (h : Int)) = true := decide_eq_true (by omega)
      clear hY
      obtain ⟨gkO, rfl⟩ : ∃ g, g = gk := ⟨_, rfl⟩
      go_wp2
      go_loopg [9, 11, 12, 13, 14] w (fun gg bv2 xv _ _ _ wq => ∃ x : Nat, w ≤ gg + x ∧ x ≤ w ∧ xv = .int .i64 (x : Int) ∧ OwnX 5 wq bv2 (bvals (X0 ++ bandT ON w h b ++ rowT ON w h b x)) ∧ Kept (fun _ => False) W wq ∧ ∀ q, bv2.ownBlock = some q → W.heap.size ≤ q)
      case atStart => exact ⟨0, by omega, by omega, rfl, by simpa [rowT] using HO.out.1, HO.out.2.1, HO.out.2.2⟩
      case round =>
        obtain ⟨x, hgx, hxw, rfl, ho, hk, hob⟩ := hrel
        have HOX := Lib.hid (And.intro ho (And.intro hk hob))
        clear ho hk hob
        by_cases hx : x < w
        · have gx : decide (x < w) = true := decide_eq_true hx
          obtain ⟨gkX, rfl⟩ : ∃ g, g = gk := ⟨_, rfl⟩
          obtain ⟨WX, hWX⟩ : ∃ WX, wr = WX := ⟨_, rfl⟩
          have HWX := Lib.hid hWX
          clear hWX
          go_wp2
          go_loopg [12, 13, 14] 6 (fun gg vv kv _ wq => ∃ k : Nat, 6 ≤ gg + k ∧ k ≤ 6 ∧ kv = .int .i64 (k : Int) ∧ vv = .int .u8 (vAt ON w h Y x k : Nat) ∧ Kept (fun _ => False) WX wq)
          case atStart => exact ⟨0, by omega, by omega, rfl, rfl, by rw [HWX.out]; exact Kept.refl _ _⟩
          case round =>
            obtain ⟨k, hgk, hk6, rfl, rfl, hkw⟩ := hrel
            have HKW := Lib.hid hkw
            clear hkw
            have hv64 := vAt_lt ON w h Y x k
            have wY : IntKind.i64.wrap ((Y : Int) + (k : Int)) = (Y : Int) + (k : Int) := IntWalk.i64_in _ (by omega)
            have wk : IntKind.i64.wrap ((k : Int) + 1) = (k : Int) + 1 := IntWalk.i64_in _ (by omega)
            by_cases hgo : k < 6 ∧ Y + k < h
            · obtain ⟨hk6', hyk⟩ := hgo
              have e0 : decide ((k : Int) < 6) = true := decide_eq_true (by omega)
              have e0' : decide (k < 6) = true := decide_eq_true hk6'
              have e1 : decide ((Y : Int) + (k : Int) < (h : Int)) = true := decide_eq_true (by omega)
              obtain ⟨m1, hm1⟩ : ∃ m, (Y + k) * w = m := ⟨_, rfl⟩
              have hm1b : m1 ≤ 1840 := by rw [← hm1]; exact Nat.mul_le_mul (by omega : Y + k ≤ 46) hw.2
              have p1 : ((Y : Int) + (k : Int)) * (w : Int) = (m1 : Int) := by rw [← hm1]; simp
              have p2 : IntKind.i64.wrap (m1 : Int) = (m1 : Int) := IntWalk.i64_in _ (by omega)
              obtain ⟨I, hI⟩ : ∃ I, m1 + x = I := ⟨_, rfl⟩
              have p3 : (m1 : Int) + (x : Int) = (I : Int) := by omega
              have p4 : IntKind.i64.wrap (I : Int) = (I : Int) := IntWalk.i64_in _ (by omega)
              have hvs : vAt ON w h Y x (k + 1) = vAt ON w h Y x k + (if ON I = true then 2 ^ k else 0) := by
                rw [vAt]
                congr 1
                rw [hm1, hI]
                by_cases h1 : ON I = true
                · rw [if_pos ⟨hyk, h1⟩, if_pos h1]
                · rw [if_neg (fun h => h1 h.2), if_neg h1]
              have hON : ON I = (decide (I < len) && B I) := by rw [← HON.out]; rfl
              have hv64' : vAt ON w h Y x k < 64 := Nat.lt_of_lt_of_le hv64 (Nat.pow_le_pow_right (by omega) hk6)
              have hor := or_bit k hk6' _ hv64' hv64
              obtain ⟨v, hv⟩ : ∃ v, vAt ON w h Y x k = v := ⟨_, rfl⟩
              rw [hv] at hvs hor ⊢
              have HVS := Lib.hid (And.intro hvs (And.intro hON hv))
              obtain ⟨P, hP⟩ : ∃ P, 2 ^ k = P := ⟨_, rfl⟩
              have hPb : P ≤ 32 := by rw [← hP]; exact Nat.pow_le_pow_right (n := 2) (by omega) (by omega : k ≤ 5)
              rw [hP] at hor hv64 HVS
              have hvb : v < 64 := by rw [← hv]; exact hv64'
              clear hvs hON hv hm1 hI
              by_cases hin : I < len
              · have e2 : decide (I < len) = true := decide_eq_true hin
                obtain ⟨b1, off1, rfl, hcB⟩ := HB.out.1.resolve_left (by omega)
                have hcI := HKW.out.cell (HOX.out.2.1.cell (hcB I hin) id |> fun h => by rw [HWX.out] at h; exact h) id
                clear hcB
                cases hBI : B I with
                | true =>
                  rw [hBI] at hcI
                  have s0 : min k 64 = k := by omega
                  have s1 : ¬ (k : Int) < 0 := by omega
                  have s2 : ((2 : Int) ^ k) = (P : Int) := by rw [← hP]; simp
                  have s3 : IntKind.u8.wrap (P : Int) = (P : Int) := IntWalk.u8_in _ (by omega)
                  have s4 : IntKind.u8.wrap ((v + P : Nat) : Int) = ((v + P : Nat) : Int) := IntWalk.u8_in _ (by omega)
                  clear hP
                  go_wp2
                  go_roundg (gk - 1)
                  case rel => exact ⟨k + 1, by omega, by omega, by simp, by rw [HVS.out.1, HVS.out.2.1, hBI, e2]; simp, HKW.out⟩
                  case measure => omega
                | false =>
                  rw [hBI] at hcI
                  go_wp2
                  go_roundg (gk - 1)
                  case rel => exact ⟨k + 1, by omega, by omega, by simp, by rw [HVS.out.1, HVS.out.2.1, hBI, e2]; simp, HKW.out⟩
                  case measure => omega
              · have e2 : decide (I < len) = false := decide_eq_false hin
                go_wp2
                go_roundg (gk - 1)
                case rel => exact ⟨k + 1, by omega, by omega, by simp, by rw [HVS.out.1, HVS.out.2.1, e2]; simp, HKW.out⟩
                case measure => omega
            · have hv6 : vAt ON w h Y x k = vAt ON w h Y x 6 := by
                by_cases h6 : k = 6
                · rw [h6]
                · have h9 := vAt_stop ON w h Y x k (by omega) (6 - k)
                  rw [show k + (6 - k) = 6 by omega] at h9
                  exact h9.symm
              have hv64' := vAt_lt ON w h Y x 6
              obtain ⟨v, hv⟩ : ∃ v, vAt ON w h Y x k = v := ⟨_, rfl⟩
              rw [hv] at hv6 ⊢
              have HV6 := Lib.hid hv6
              rw [← hv6] at hv64'
              have w63 : IntKind.u8.wrap (63 + (v : Int)) = 63 + (v : Int) := IntWalk.u8_in _ (by omega)
              have hlen : (X0 ++ bandT ON w h b ++ rowT ON w h b x).length ≤ 1000000 := by
                rw [List.length_append, List.length_append, bandT_len, rowT_len]
                have h8 : b * (w + 1) ≤ 8 * 41 := Nat.mul_le_mul (by omega) (by omega)
                have := HX.out.2.2
                omega
              obtain ⟨la, lc, rfl, -⟩ := HOX.out.1.slAt
              obtain ⟨NL, hNL⟩ : ∃ n, (X0 ++ bandT ON w h b ++ rowT ON w h b x).length = n := ⟨_, rfl⟩
              have hoa : OwnX 5 (wr.alloc (.cells #[.int .u8 (63 + (v : Int))] 5)) (.slice la NL lc) (bvals (X0 ++ bandT ON w h b ++ rowT ON w h b x)) := by
                have h9 := HOX.out.1
                rw [hNL, HWX.out] at h9
                exact (h9.kept HKW.out (fun _ _ => id)).kept ((Kept.refl (fun _ => False) wr).alloc _) (fun _ _ => id)
              have HNL := Lib.hid hNL
              rw [hNL] at hlen ⊢
              have hnw := news_one (w := wr) (.int .u8 (63 + (v : Int))) 5
              have wx : IntKind.i64.wrap ((x : Int) + 1) = (x : Int) + 1 := IntWalk.i64_in _ (by omega)
              have hkWw : Kept (fun _ => False) W wr := by have h9 := HOX.out.2.1; rw [HWX.out] at h9; exact h9.then HKW.out
              have HKWW := Lib.hid (And.intro hkWw HOX.out.2.2)
              clear hkWw hv hNL hv6
              have hcx : (k = 6 ∧ True) ∨ (k < 6 ∧ h ≤ Y + k) := by rcases Nat.lt_or_ge k 6 with h6 | h6; exact .inr ⟨h6, Nat.le_of_not_lt (fun h7 => hgo ⟨h6, h7⟩)⟩; exact .inl ⟨Nat.le_antisymm hk6 h6, trivial⟩
              rcases hcx with ⟨rfl, -⟩ | ⟨hk6', hyk⟩
              · have e0 : decide ((6 : Int) < 6) = false := decide_eq_false (by omega)
                have e0' : decide (6 < 6) = false := decide_eq_false (by omega)
                go_wp2_with (first
                  | (at_builtin; refine wpList_appX rfl (.tmp 63) (.tmp 66) 30 rfl 5 i0 (.int .u8 0) 1 Try.underlying30 HI.out.1 HI.out.2.1 HI.out.2.2.1 HI.out.2.2.2 rfl (.slice la NL lc) (bvals (X0 ++ bandT ON w h b ++ rowT ON w h b x)) rfl hoa ⟨wr.heap.size, 0, none⟩ 1 1 [.int .u8 (63 + (v : Int))] rfl rfl hnw (by intro u hu; simp at hu; subst hu; rfl) (by rw [bvals_len, HNL.out]; simp [maxLen]; omega) (by rw [bvals_len, HNL.out]; omega) ?_; intro v5 w5 ho5 hk5 hpr5))
                have H5 := Lib.hid (show OwnX 5 w5 v5 (bvals (X0 ++ bandT ON w h b ++ rowT ON w h b (x + 1))) ∧ Kept (fun _ => False) W w5 ∧ ∀ q, v5.ownBlock = some q → W.heap.size ≤ q from by
                  refine ⟨?_, (HKWW.out.1.alloc _).trans (hk5.mono fun i _ hi => Or.inr (HKWW.out.2 i (by rw [← hi, HNL.out]))), own_prov (e := 5) (w' := w5) hpr5 (by have := HKWW.out.1.size; simp; omega) (fun q hq => HKWW.out.2 q (by rw [← hq, HNL.out]))⟩
                  have e9 : X0 ++ bandT ON w h b ++ rowT ON w h b (x + 1) = (X0 ++ bandT ON w h b ++ rowT ON w h b x) ++ [63 + v] := by rw [rowT, HY.out, ← HV6.out]; simp
                  have e8 : bvals [63 + v] = [.int .u8 (63 + (v : Int))] := by simp [bvals, ints]
                  rw [e9, bvals_append, e8]; exact ho5)
                clear ho5 hk5 hpr5 hoa hnw
                go_wp2
                go_roundg (gkX - 1)
                case rel => exact ⟨x + 1, by omega, by omega, by simp, H5.out⟩
                case measure => omega
              · have e0 : decide ((k : Int) < 6) = true := decide_eq_true (by omega)
                have e0' : decide (k < 6) = true := decide_eq_true hk6'
                have e1 : decide ((Y : Int) + (k : Int) < (h : Int)) = false := decide_eq_false (by omega)
                go_wp2_with (first
                  | (at_builtin; refine wpList_appX rfl (.tmp 63) (.tmp 66) 30 rfl 5 i0 (.int .u8 0) 1 Try.underlying30 HI.out.1 HI.out.2.1 HI.out.2.2.1 HI.out.2.2.2 rfl (.slice la NL lc) (bvals (X0 ++ bandT ON w h b ++ rowT ON w h b x)) rfl hoa ⟨wr.heap.size, 0, none⟩ 1 1 [.int .u8 (63 + (v : Int))] rfl rfl hnw (by intro u hu; simp at hu; subst hu; rfl) (by rw [bvals_len, HNL.out]; simp [maxLen]; omega) (by rw [bvals_len, HNL.out]; omega) ?_; intro v5 w5 ho5 hk5 hpr5))
                have H5 := Lib.hid (show OwnX 5 w5 v5 (bvals (X0 ++ bandT ON w h b ++ rowT ON w h b (x + 1))) ∧ Kept (fun _ => False) W w5 ∧ ∀ q, v5.ownBlock = some q → W.heap.size ≤ q from by
                  refine ⟨?_, (HKWW.out.1.alloc _).trans (hk5.mono fun i _ hi => Or.inr (HKWW.out.2 i (by rw [← hi, HNL.out]))), own_prov (e := 5) (w' := w5) hpr5 (by have := HKWW.out.1.size; simp; omega) (fun q hq => HKWW.out.2 q (by rw [← hq, HNL.out]))⟩
                  have e9 : X0 ++ bandT ON w h b ++ rowT ON w h b (x + 1) = (X0 ++ bandT ON w h b ++ rowT ON w h b x) ++ [63 + v] := by rw [rowT, HY.out, ← HV6.out]; simp
                  have e8 : bvals [63 + v] = [.int .u8 (63 + (v : Int))] := by simp [bvals, ints]
                  rw [e9, bvals_append, e8]; exact ho5)
                clear ho5 hk5 hpr5 hoa hnw
                go_wp2
                go_roundg (gkX - 1)
                case rel => exact ⟨x + 1, by omega, by omega, by simp, H5.out⟩
                case measure => omega
        · obtain rfl : x = w := by omega
          have gx : decide (x < x) = false := decide_eq_false (by omega)
          have hlen : (X0 ++ bandT ON x h b ++ rowT ON x h b x).length ≤ 1000000 := by
            rw [List.length_append, List.length_append, bandT_len, rowT_len]
            have h8 : b * (x + 1) ≤ 8 * 41 := Nat.mul_le_mul (by omega) (by omega)
            have := HX.out.2.2
            omega
          obtain ⟨la, lc, rfl, -⟩ := HOX.out.1.slAt
          obtain ⟨NL, hNL⟩ : ∃ n, (X0 ++ bandT ON x h b ++ rowT ON x h b x).length = n := ⟨_, rfl⟩
          have hoa : OwnX 5 (wr.alloc (.cells #[.int .u8 45] 5)) (.slice la NL lc) (bvals (X0 ++ bandT ON x h b ++ rowT ON x h b x)) := by
            have h9 := HOX.out.1
            rw [hNL] at h9
            exact h9.kept ((Kept.refl (fun _ => False) wr).alloc _) (fun _ _ => id)
          have HNL := Lib.hid hNL
          rw [hNL] at hlen ⊢
          have hnw := news_one (w := wr) (.int .u8 45) 5
          have wY6 : IntKind.i64.wrap ((Y : Int) + 6) = (Y : Int) + 6 := IntWalk.i64_in _ (by omega)
          clear hNL
          go_wp2_with (first
            | (at_builtin; refine wpList_appX rfl (.tmp 68) (.tmp 69) 30 rfl 5 i0 (.int .u8 0) 1 Try.underlying30 HI.out.1 HI.out.2.1 HI.out.2.2.1 HI.out.2.2.2 rfl (.slice la NL lc) (bvals (X0 ++ bandT ON x h b ++ rowT ON x h b x)) rfl hoa ⟨wr.heap.size, 0, none⟩ 1 1 [.int .u8 45] rfl rfl hnw (by intro u hu; simp at hu; subst hu; rfl) (by rw [bvals_len, HNL.out]; simp [maxLen]; omega) (by rw [bvals_len, HNL.out]; omega) ?_; intro v5 w5 ho5 hk5 hpr5))
          have H5 := Lib.hid (show OwnX 5 w5 v5 (bvals (X0 ++ bandT ON x h (b + 1))) ∧ Kept (fun _ => False) W w5 ∧ ∀ q, v5.ownBlock = some q → W.heap.size ≤ q from by
            refine ⟨?_, (HOX.out.2.1.alloc _).trans (hk5.mono fun i _ hi => Or.inr (HOX.out.2.2 i (by rw [← hi, HNL.out]))), own_prov (e := 5) (w' := w5) hpr5 (by have := HOX.out.2.1.size; simp; omega) (fun q hq => HOX.out.2.2 q (by rw [← hq, HNL.out]))⟩
            have e9 : X0 ++ bandT ON x h (b + 1) = (X0 ++ bandT ON x h b ++ rowT ON x h b x) ++ [45] := by rw [bandT]; simp
            rw [e9, bvals_append]; exact ho5)
          clear ho5 hk5 hpr5 hoa hnw
          go_wp2
          go_roundg (gkO - 1)
          case rel => exact ⟨b + 1, by omega, by have := HY.out; omega, by have := HY.out; simp; omega, H5.out⟩
          case measure => omega
    · have g0 : decide (Y < h) = false := decide_eq_false hbh
      have g0' : decide ((Y : Int) < (h : Int)) = false := decide_eq_false (by omega)
      obtain ⟨sa, sc, rfl, hs1, hs2, hs3, hs4, hs5⟩ := HO.out.1.slAt
      have HS := Lib.hid (And.intro hs1 (And.intro hs2 (And.intro hs3 (And.intro hs4 hs5))))
      have hb1 : h ≤ 6 * b := by omega
      clear hs1 hs2 hs3 hs4 hs5 hY
      go_wp2
      refine bodyPost_ret (v := .slice sa (X0 ++ bandT ON w h b).length sc) (by simp [results, Try.results21, go_sem]) rfl ?_
      exact ⟨sa, _, sc, b, hb1, hb6, rfl, HS.out.1, HS.out.2.1, HS.out.2.2.1, HS.out.2.2.2.1, HO.out.2.1, fun q off h => HO.out.2.2 q (HS.out.2.2.2.2 q off h)⟩
end Go.Proofs.Ytomcjdonacckfaa
