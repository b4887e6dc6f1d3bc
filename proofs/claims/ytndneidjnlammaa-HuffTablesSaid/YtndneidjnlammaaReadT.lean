/- A symbol read: Read. -/
import Derived.Test.YtndneidjnlammaaReadP
namespace Go.Proofs.Ytndneidjnlammaa
open Go.RowKit Pl
set_option linter.unusedVariables false
set_option linter.unusedSimpArgs false
theorem bit_of (l : List Nat) (t n k : Nat) (hk : k < n) : bitsOf l t n / 2 ^ k % 2 = bitsOf l (t + k) 1 := by
  unfold bitsOf
  obtain ⟨m, rfl⟩ : ∃ m, n = k + (m + 1) := ⟨n - k - 1, by omega⟩
  rw [Nat.pow_add 2 k, Nat.mod_mul_right_div_self, Nat.div_div_eq_div_mul, ← Nat.pow_add, Nat.pow_succ, Nat.mul_comm (2 ^ m) 2, Nat.mod_mul_right_mod]
def bitAt (bs : List Int) (t j : Nat) : Nat := bitsOf (nats bs) (t + j) 1
theorem bitAt_lt (bs : List Int) (t j : Nat) : bitAt bs t j < 2 := bitsOf_lt _ _ 1
theorem and_one (x : Nat) (h : x < 4294967296) : bits BinOp.and IntKind.u32 (x : Int) 1 = ((x % 2 : Nat) : Int) := by
  show IntKind.u32.wrap ((BitVec.ofInt 32 (x : Int) &&& BitVec.ofInt 32 1).toNat : Int) = _
  rw [BitVec.toNat_and, BitVec.toNat_ofInt, BitVec.toNat_ofInt]
  have e1 : (((x : Int) % ((2 ^ 32 : Nat) : Int)).toNat) = x := by omega
  have e2 : (((1 : Int) % ((2 ^ 32 : Nat) : Int)).toNat) = 1 := by decide
  rw [e1, e2, Nat.and_one_is_mod]
  exact IntWalk.u32_in _ (by omega)
theorem or_even (x b : Nat) (hb : b < 2) : (2 * x) ||| b = 2 * x + b := by
  apply Nat.eq_of_testBit_eq
  intro i
  rw [Nat.testBit_or]
  cases i with
  | zero => simp [Nat.testBit_zero]
  | succ i =>
    rw [Nat.testBit_succ, Nat.testBit_succ, Nat.testBit_succ]
    have : b / 2 = 0 := by omega
    rw [this, show 2 * x / 2 = x by omega, show (2 * x + b) / 2 = x by omega]
    simp
theorem or_one (x b : Nat) (h : x < 65536) (hb : b < 2) : bits BinOp.or IntKind.i64 ((2 * x : Nat) : Int) (b : Int) = ((2 * x + b : Nat) : Int) := by
  show IntKind.i64.wrap ((BitVec.ofInt 64 ((2 * x : Nat) : Int) ||| BitVec.ofInt 64 (b : Int)).toNat : Int) = _
  rw [BitVec.toNat_or, BitVec.toNat_ofInt, BitVec.toNat_ofInt]
  have e1 : ((((2 * x : Nat) : Int) % ((2 ^ 64 : Nat) : Int)).toNat) = 2 * x := by omega
  have e2 : (((b : Int) % ((2 ^ 64 : Nat) : Int)).toNat) = b := by omega
  rw [e1, e2, or_even x b hb]
  exact IntWalk.i64_in _ (by omega)
set_option maxRecDepth 100000 in
set_option maxHeartbeats 16000000 in
theorem read_any (W : World) (a : Nat) (gs ls : List Nat) (sv cv : Value) (la : Option Addr) (lc : Nat) (h : TOwn W a (cntI ls) (srt ls 15) gs ls (mx ls : Nat) sv cv la lc) (hls : ∀ c ∈ ls, c ≤ 15) (hlen : ls.length ≤ 320) (hroom : room ls ≤ 32768)
    (p : Nat) (o : Option Nat) (bs : List Int) (t : Nat) (hr : RdAt W p o bs t) (hpa : p ≠ a) (hps : sv.ownBlock ≠ some p) (hbs : bs.length ≤ 1000000) {R : Rd} (hR : readV ls (bitAt bs t) (8 * bs.length - t) = R) :
    Calls Try.prog 15 #[.pointer (some ⟨a, 0, none⟩), .pointer (some ⟨p, 0, none⟩)] W fun e w' => e = .returned (.tuple #[.int .i64 (R.sym : Int), .int .i64 (R.err : Int)]) ∧ RdAt w' p o bs (t + R.used) ∧ Kept (fun i => i = p) W w' := by
  have ht8 : t ≤ 8 * bs.length := by obtain ⟨v, -, -, -, -, -, h6, -⟩ := hr; exact h6
  obtain ⟨LF, hLF⟩ : ∃ L, 8 * bs.length - t = L := ⟨_, rfl⟩
  have hLFi : 8 * (bs.length : Int) - (t : Int) = (LF : Int) := by omega
  obtain ⟨A, hA⟩ : ∃ A, min 15 LF = A := ⟨_, rfl⟩
  have hA15 : A ≤ 15 := by omega
  have hAL : A ≤ LF := by omega
  have mn1 : (if (15 : Int) < (LF : Int) then (15 : Int) else (LF : Int)) = (A : Int) := by split <;> omega
  have mn2 : (if (LF : Int) < 15 then (LF : Int) else 15) = (A : Int) := by split <;> omega
  have mn3 : (if 15 < LF then (15 : Int) else (LF : Int)) = (A : Int) := by split <;> omega
  have mn4 : (if LF < 15 then (LF : Int) else 15) = (A : Int) := by split <;> omega
  have HL := Lib.hid (left_any p o bs t W hr)
  rw [hLFi] at HL
  obtain ⟨V, hV⟩ : ∃ V, bitsOf (nats bs) t A = V := ⟨_, rfl⟩
  have hVb : V < 32768 := by rw [← hV]; exact Nat.lt_of_lt_of_le (bitsOf_lt _ _ _) (Nat.pow_le_pow_right (n := 2) (by omega) hA15)
  have hpk : ∀ w', Kept (fun _ => False) W w' → Calls Try.prog 30 #[.pointer (some ⟨p, 0, none⟩), .int .i64 A] w' fun e w'' => e = .returned (.tuple #[.int .u32 (V : Int), .bool true]) ∧ ∃ n, w'' = w'.drewN n := fun w' hk => by
    have h9 := peek_yes p o bs t A w' (hr.kept hk id (fun _ _ => id)) (by omega) (by omega)
    rw [hV] at h9
    exact h9
  have H := Lib.hid (And.intro h (And.intro hls (And.intro hlen (And.intro hroom (And.intro hr (And.intro hpa (And.intro hps hR)))))))
  have HP := Lib.hid (And.intro hpk (And.intro hV (And.intro hLF hA)))
  clear h hls hlen hroom hr hpa hps hR hpk hV hA hLFi hLF
  go_enter Try.func15, Try.ntmps15
  go_wp2_with fail
  refine HL.out.mono ?_
  rintro e w1 ⟨rfl, m1, rfl⟩
  go_wp2_with fail
  refine (HP.out.1 _ ((Kept.refl _ _).drewN m1)).mono ?_
  rintro e w2 ⟨rfl, m2, hw2⟩
  have hk2 : Kept (fun _ => False) W w2 := by rw [hw2]; exact ((Kept.refl _ _).drewN m1).drewN m2
  have HK2 := Lib.hid hk2
  clear hw2 hk2 mn1 mn2 mn3 mn4
  go_wp2
  go_loopg [6, 7, 8, 9, 11, 12] 16 (fun gg cv_ fv av vv kv _ wr => ∃ k c : Nat, 16 ≤ gg + k ∧ k ≤ 15 ∧ kv = .int .i64 ((k + 1 : Nat) : Int) ∧ cv_ = .int .i64 ((2 * c : Nat) : Int) ∧ fv = .int .i64 (fst ls (k + 1) : Nat) ∧ av = .int .i64 (before ls (k + 1) : Nat) ∧ vv = .int .u32 ((V / 2 ^ k : Nat) : Int) ∧ c < 2 ^ k ∧ fst ls k + cnt ls k ≤ c ∧ dec ls (bitAt bs t) LF (16 - k) k c = R ∧ wr = w2)
  case atStart => exact ⟨0, 0, by omega, by omega, rfl, rfl, rfl, rfl, by simp, by decide, Nat.le_refl _, by rw [← HP.out.2.2.1]; exact H.out.2.2.2.2.2.2.2, rfl⟩
  case round =>
    obtain ⟨k, c, hgg, hk15, rfl, rfl, rfl, rfl, rfl, hc, hun, hdec, hwr⟩ := hrel
    obtain rfl : w2 = wr := hwr.symm
    have hT2 := H.out.1.grow HK2.out
    have c19 := hT2.1.fz.1
    obtain ⟨MX, hMX⟩ : ∃ m, mx ls = m := ⟨_, rfl⟩
    rw [hMX] at c19
    have hMXb : MX ≤ 15 := by rw [← hMX]; exact mx_le H.out.2.1
    obtain ⟨K, hK⟩ : ∃ K, k + 1 = K := ⟨_, rfl⟩
    rw [show 16 - k = (15 - k) + 1 by omega, dec, hMX, hK] at hdec
    rw [hK]
    obtain ⟨F, hF⟩ : ∃ F, fst ls K = F := ⟨_, rfl⟩
    obtain ⟨BE, hBE⟩ : ∃ F, before ls K = F := ⟨_, rfl⟩
    rw [hF, hBE] at hdec ⊢
    obtain ⟨Vk, hVk⟩ : ∃ V', V / 2 ^ k = V' := ⟨_, rfl⟩
    rw [hVk]
    have hVkb : Vk < 32768 := by rw [← hVk]; exact Nat.lt_of_le_of_lt (Nat.div_le_self _ _) hVb
    have HK := Lib.hid (And.intro hK (And.intro hF (And.intro hBE (And.intro hVk (And.intro hMX hun)))))
    clear hF hBE hVk hMX
    by_cases hm : MX ≤ k
    · have g1 : decide ((K : Int) ≤ (MX : Int)) = false := decide_eq_false (by omega)
      have g1' : decide (K ≤ MX) = false := decide_eq_false (by omega)
      rw [if_pos hm] at hdec
      subst hdec
      have HRD := Lib.hid (H.out.2.2.2.2.1.kept HK2.out id (fun _ _ => id))
      clear hT2 hun hK
      go_wp2
      refine bodyPost_ret (v := .tuple #[.int .i64 0, .int .i64 3]) (by simp [results, Try.results15, go_sem]) rfl ⟨rfl, HRD.out, HK2.out.mono fun _ _ h => h.elim⟩
    · have g1 : decide ((K : Int) ≤ (MX : Int)) = true := decide_eq_true (by omega)
      have g1' : decide (K ≤ MX) = true := decide_eq_true (by omega)
      rw [if_neg hm] at hdec
      by_cases ha : LF ≤ k
      · have g2 : decide ((A : Int) < (K : Int)) = true := decide_eq_true (by omega)
        have g2' : decide (A < K) = true := decide_eq_true (by omega)
        rw [if_pos ha] at hdec
        subst hdec
        have HRD := Lib.hid (H.out.2.2.2.2.1.kept HK2.out id (fun _ _ => id))
        clear hT2 hun hK
        go_wp2
        refine bodyPost_ret (v := .tuple #[.int .i64 0, .int .i64 2]) (by simp [results, Try.results15, go_sem]) rfl ⟨rfl, HRD.out, HK2.out.mono fun _ _ h => h.elim⟩
      · have hkA : k < A := by have := HP.out.2.2.2; omega
        have g2 : decide ((A : Int) < (K : Int)) = false := decide_eq_false (by omega)
        have g2' : decide (A < K) = false := decide_eq_false (by omega)
        rw [if_neg ha] at hdec
        have hbit : Vk % 2 = bitAt bs t k := by rw [← HK.out.2.2.2.1, ← HP.out.2.1]; exact bit_of _ _ _ _ hkA
        obtain ⟨b, hb⟩ : ∃ b, bitAt bs t k = b := ⟨_, rfl⟩
        have hb2 : b < 2 := by rw [← hb]; exact bitAt_lt _ _ _
        rw [hb] at hbit hdec
        have hcb : c < 32768 := Nat.lt_of_lt_of_le hc (Nat.pow_le_pow_right (n := 2) (by omega) hk15)
        have an := and_one Vk (by omega)
        rw [hbit] at an
        have orr := or_one c b (by omega) hb2
        obtain ⟨C2, hC2⟩ : ∃ x, 2 * c = x := ⟨_, rfl⟩
        obtain ⟨CC, hCC⟩ : ∃ x, C2 + b = x := ⟨_, rfl⟩
        rw [hC2, hCC] at orr hdec
        rw [hC2]
        have hCC2 : CC < 2 ^ K := by rw [← hK, Nat.pow_succ]; omega
        have hKb : K ≤ 15 := by omega
        have hCCb : CC < 32768 := Nat.lt_of_lt_of_le hCC2 (Nat.pow_le_pow_right (n := 2) (by omega) hKb)
        have hFC : F ≤ CC := by rw [← HK.out.2.1, ← hK, fst]; omega
        obtain ⟨NC, hNC⟩ : ∃ n, cnt ls K = n := ⟨_, rfl⟩
        have cK := (hT2.1.cn K (by omega)).1
        rw [cntI_at _ K (by omega), hNC] at cK
        have hFN := fst_le H.out.2.2.2.1 K hKb
        rw [HK.out.2.1, hNC] at hFN
        have hFN2 : F + NC ≤ 32768 := Nat.le_trans hFN (Nat.pow_le_pow_right (n := 2) (by omega) hKb)
        rw [hNC] at hdec
        have d1 : IntKind.i64.wrap ((CC : Int) - (F : Int)) = (CC : Int) - (F : Int) := IntWalk.i64_in _ (by omega)
        have wb : IntKind.i64.wrap (b : Int) = (b : Int) := IntWalk.i64_in _ (by omega)
        have K16 : (K : Int) < 16 := by omega
        have K16' : K < 16 := by omega
        have v2 : (Vk : Int) / 2 = ((Vk / 2 : Nat) : Int) := by omega
        have hbl : BE ≤ 5120 := by
          rw [← HK.out.2.2.1]
          have key : ∀ m, m ≤ 16 → before ls m ≤ 320 * m := by
            intro m
            induction m with
            | zero => intro _; exact Nat.le_refl _
            | succ m ih =>
              intro hm
              rw [before]
              have h2 : cnt ls m ≤ 320 := by
                unfold cnt; split
                · omega
                · exact Nat.le_trans List.count_le_length H.out.2.2.1
              have := ih (by omega)
              omega
          exact Nat.le_trans (key K (by omega)) (by omega)
        obtain ⟨Vh, hVh⟩ : ∃ x, Vk / 2 = x := ⟨_, rfl⟩
        rw [hVh] at v2
        have HVh := Lib.hid (And.intro hVh (And.intro hNC (And.intro hC2 (And.intro hCC hb))))
        by_cases hf : CC < F + NC
        · have g3 : decide ((CC : Int) - (F : Int) < (NC : Int)) = true := decide_eq_true (by omega)
          rw [if_pos hf] at hdec
          obtain ⟨s, hs1, hs2, hs3⟩ := sym_code (ls := ls) (k := K) (c := CC) (by omega) (by rw [HK.out.2.1]; exact hFC) (by rw [HK.out.2.1, hNC]; exact hf)
          have hat := srt_at hs1 ⟨by omega, hKb⟩
          rw [hs3, HK.out.2.1, HK.out.2.2.1] at hat
          obtain ⟨IX, hIX⟩ : ∃ x, BE + (CC - F) = x := ⟨_, rfl⟩
          have hIX2 : BE + CC - F = IX := by omega
          rw [hIX] at hat
          have hsym : (srt ls 15).getD IX 0 = s := by rw [List.getD_eq_getElem?_getD, hat]; rfl
          rw [hIX2, hsym] at hdec
          subst hdec
          have hsl : IX < (srt ls 15).length := (List.getElem?_eq_some_iff.1 hat).1
          have hsl2 : (srt ls 15).length ≤ 320 := by rw [srt_nz ls H.out.2.1]; exact Nat.le_trans (nz_le ls) H.out.2.2.1
          have hs320 : s < 320 := Nat.lt_of_lt_of_le (List.getElem?_eq_some_iff.1 hs1).1 H.out.2.2.1
          have i1 : IntKind.i64.wrap ((BE : Int) + (CC : Int)) = (BE : Int) + (CC : Int) := IntWalk.i64_in _ (by omega)
          have i2 : (BE : Int) + (CC : Int) - (F : Int) = (IX : Int) := by omega
          have i3 : IntKind.i64.wrap (IX : Int) = (IX : Int) := IntWalk.i64_in _ (by omega)
          have HBI := Lib.hid (rbits_yes p o bs t K w2 (H.out.2.2.2.2.1.kept HK2.out id (fun _ _ => id)) (by omega) (by have := HP.out.2.2.1; omega))
          have HS := Lib.hid (And.intro hat (And.intro hsym (And.intro hsl hIX2)))
          clear hT2 hun hK hVh hNC hC2 hCC hb hat hsym hsl hs1 hs2 hs3 hIX hIX2
          go_wp2_with fail
          refine HBI.out.mono ?_
          rintro e w3 ⟨rfl, hr3, hk3⟩
          have hT3 := H.out.1.grow HK2.out
          have hB3 := hT3.1.kept hk3 (fun h => H.out.2.2.2.2.2.1 h.symm)
          have hO3 := hT3.2.1.kept hk3 (fun q hq (h : q = p) => H.out.2.2.2.2.2.2.1 (by rw [hq, h]))
          obtain ⟨g, cp, hsv⟩ := own_row hO3 (by rw [ints_length]; have := HS.out.2.2.1; omega)
          rw [ints_length] at hsv
          have c16 := hB3.fs.1
          rw [hsv] at c16 hO3
          obtain ⟨y1, -⟩ := own_cell hO3 IX HS.out.2.2.1
          rw [ints_at HS.out.1] at y1
          obtain ⟨SL, hSL⟩ : ∃ n, (srt ls 15).length = n := ⟨_, rfl⟩
          rw [hSL] at c16
          have hIS : IX < SL := by rw [← hSL]; exact HS.out.2.2.1
          have hIS' : (IX : Int) < (SL : Int) := by omega
          have H3 := Lib.hid (And.intro hr3 (HK2.out.mono (S' := fun i => i = p) (fun _ _ h => h.elim) |>.then hk3))
          clear hr3 hk3 hT3 hB3 hO3 hsv hSL
          go_wp2
          refine bodyPost_ret (v := .tuple #[.int .i64 (s : Int), .int .i64 0]) (by simp [results, Try.results15, go_sem]) rfl ?_
          exact ⟨rfl, H3.out⟩
        · have g3 : decide ((CC : Int) - (F : Int) < (NC : Int)) = false := decide_eq_false (by omega)
          rw [if_neg hf] at hdec
          have j1 : IntKind.i64.wrap ((BE : Int) + (NC : Int)) = (BE : Int) + (NC : Int) := IntWalk.i64_in _ (by omega)
          have j2 : IntKind.i64.wrap ((F : Int) + (NC : Int)) = (F : Int) + (NC : Int) := IntWalk.i64_in _ (by omega)
          have j3 : IntKind.i64.wrap (((F : Int) + (NC : Int)) * 2) = ((F : Int) + (NC : Int)) * 2 := IntWalk.i64_in _ (by omega)
          have j4 : IntKind.i64.wrap ((CC : Int) * 2) = (CC : Int) * 2 := IntWalk.i64_in _ (by omega)
          have j5 : IntKind.i64.wrap ((K : Int) + 1) = (K : Int) + 1 := IntWalk.i64_in _ (by omega)
          have hfs : fst ls (K + 1) = (F + NC) * 2 := by rw [fst, HK.out.2.1, hNC]; omega
          have hbe : before ls (K + 1) = BE + NC := by rw [before, HK.out.2.2.1, hNC]
          have hvh : V / 2 ^ K = Vh := by rw [← hVh, ← HK.out.2.2.2.1, ← hK, Nat.pow_succ, Nat.div_div_eq_div_mul]
          have HN := Lib.hid (And.intro hfs (And.intro hbe (And.intro hvh (And.intro hdec (And.intro hCC2 (show fst ls K + cnt ls K ≤ CC by rw [HK.out.2.1, hNC]; omega))))))
          clear hT2 hun hK hVh hNC hC2 hCC hb hdec hfs hbe hvh
          go_wp2
          go_roundg (gk - 1)
          case rel => exact ⟨K, CC, by have := HK.out.1; omega, by omega, by simp, by simp; omega, by rw [HN.out.1]; simp, by rw [HN.out.2.1]; simp, by rw [HN.out.2.2.1], HN.out.2.2.2.2.1, HN.out.2.2.2.2.2, by rw [show 16 - K = 15 - k by have := HK.out.1; omega]; exact HN.out.2.2.2.1, rfl⟩
          case measure => omega
end Go.Proofs.Ytndneidjnlammaa
