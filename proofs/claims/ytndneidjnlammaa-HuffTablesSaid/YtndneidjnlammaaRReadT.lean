/- The document's reading of a symbol: Read. -/
import Derived.Test.YtndneidjnlammaaBegins
namespace Go.Proofs.Ytndneidjnlammaa
open Go.RowKit Pl
set_option linter.unusedVariables false
set_option linter.unusedSimpArgs false
theorem RfAt.back {w : World} {q : Nat} {a : Option Addr} {len cap at_ t : Nat} {xs : List Int} (h : RfAt w q a len cap xs at_) (ht : t ≤ 8 * len) : RfAt (w.setCell ⟨q, 1, none⟩ (.int .i64 (t : Int))) q a len cap xs t := h.put rfl ht
theorem or_one32 (x b : Nat) (h : x < 65536) (hb : b < 2) : bits BinOp.or IntKind.u32 ((2 * x : Nat) : Int) (b : Int) = ((2 * x + b : Nat) : Int) := by
  show IntKind.u32.wrap ((BitVec.ofInt 32 ((2 * x : Nat) : Int) ||| BitVec.ofInt 32 (b : Int)).toNat : Int) = _
  rw [BitVec.toNat_or, BitVec.toNat_ofInt, BitVec.toNat_ofInt]
  have e1 : ((((2 * x : Nat) : Int) % ((2 ^ 32 : Nat) : Int)).toNat) = 2 * x := by omega
  have e2 : (((b : Int) % ((2 ^ 32 : Nat) : Int)).toNat) = b := by omega
  rw [e1, e2, or_even x b hb]
  exact IntWalk.u32_in _ (by omega)
/-- What is still to come at n bits, of them c. -/
def decAt (ls : List Nat) (bit : Nat → Nat) (avail n c : Nat) : Rd := if c < fst ls n + cnt ls n then ⟨(srt ls 15).getD (before ls n + c - fst ls n) 0, n, 0⟩ else dec ls bit avail (16 - n) n c
def symB (ls : List Nat) (c n i : Nat) : Bool := decide (0 < n ∧ ls.getD i 0 = n ∧ codeL ls i = c)
set_option maxRecDepth 100000 in
set_option maxHeartbeats 16000000 in
theorem rread_any (W : World) (a : Nat) (ls : List Nat) (cv : Value) (la : Option Addr) (lc : Nat) (h : ROwn W a (codesC ls) ls cv la lc) (hls : ∀ c ∈ ls, c ≤ 15) (hlen : ls.length ≤ 320) (hok : okTab ls = true)
    (q : Nat) (ba : Option Addr) (bl bc : Nat) (xs : List Int) (t : Nat) (hr : RfAt W q ba bl bc xs t) (hqa : q ≠ a) (hqc : cv.ownBlock ≠ some q) (hql : ∀ b off, 0 < ls.length → la = some ⟨b, off, none⟩ → b ≠ q) {R : Rd} (hR : readV ls (bitAt xs t) (8 * bl - t) = R) :
    Calls Try.prog 16 #[.pointer (some ⟨a, 0, none⟩), .pointer (some ⟨q, 0, none⟩)] W fun e w' => e = .returned (.tuple #[.int .i64 (R.sym : Int), .int .i64 (R.err : Int)]) ∧ RfAt w' q ba bl bc xs (t + R.used) ∧ Kept (fun i => i = q) W w' := by
  have hroom := okTab_le hok
  have ht8 : t ≤ 8 * bl := hr.2.2.2.2.2.1
  have hb400 : bl ≤ 400 := hr.2.2.2.2.2.2.1
  obtain ⟨LF, hLF⟩ : ∃ L, 8 * bl - t = L := ⟨_, rfl⟩
  rw [hLF] at hR
  have hD0 : decAt ls (bitAt xs t) LF 0 0 = R := by
    unfold decAt
    rw [if_neg (show ¬ 0 < fst ls 0 + cnt ls 0 from Nat.not_lt_zero _)]
    exact hR
  obtain ⟨len, hll⟩ : ∃ n, ls.length = n := ⟨_, rfl⟩
  obtain ⟨-, c1, -⟩ := blk2 hr.1
  have H := Lib.hid (And.intro h (And.intro hls (And.intro hlen (And.intro hok (And.intro hroom (And.intro hll (And.intro hqa (And.intro hqc hql))))))))
  have HR := Lib.hid (And.intro hr hD0)
  clear h hls hok hroom hqa hqc hql hr hR hD0
  go_enter Try.func16, Try.ntmps16
  go_wp2
  go_loopg [7, 8] 17 (fun gg cv_ nv wr => ∃ n c : Nat, 17 ≤ gg + n ∧ n ≤ 15 ∧ nv = .int .i64 (n : Int) ∧ cv_ = .int .u32 (c : Int) ∧ c < 2 ^ n ∧ fst ls n ≤ c ∧ decAt ls (bitAt xs t) LF n c = R ∧ n ≤ LF ∧ RfAt wr q ba bl bc xs (t + n) ∧ Kept (fun i => i = q) W wr)
  case atStart => exact ⟨0, 0, by omega, by omega, rfl, rfl, by simp, Nat.le_refl _, HR.out.2, by omega, HR.out.1, Kept.refl _ _⟩
  case round =>
    obtain ⟨n, c, hgg, hn15, rfl, rfl, hc2, hfc, hdec, hnLF, hrf, hkr⟩ := hrel
    have hcb : c < 32768 := Nat.lt_of_lt_of_le hc2 (Nat.pow_le_pow_right (n := 2) (by omega) hn15)
    have hO := H.out.1.kept hkr (fun h => H.out.2.2.2.2.2.2.1 h.symm) (fun b hb (h : b = q) => H.out.2.2.2.2.2.2.2.1 (by rw [hb, h])) (fun b off h0 h => H.out.2.2.2.2.2.2.2.2 b off h0 h)
    have HO := Lib.hid hO
    obtain ⟨⟨c18, -⟩, c17, -⟩ := blk2 hO.1
    rw [H.out.2.2.2.2.2.1] at c18
    obtain ⟨-, q1, q2⟩ := blk2 hrf.1
    have HN := Lib.hid (And.intro hc2 (And.intro hfc (And.intro hdec (And.intro hrf hkr))))
    clear hO hc2 hfc hdec hrf hkr
    have gn : decide ((n : Int) ≤ 15) = true := decide_eq_true (by omega)
    have gn' : decide (n ≤ 15) = true := decide_eq_true hn15
    have wn : IntKind.i64.wrap ((n : Int) + 1) = (n : Int) + 1 := IntWalk.i64_in _ (by omega)
    obtain ⟨G, hG⟩ : ∃ G, gk = G := ⟨_, rfl⟩
    go_wp2
    go_loopg [9] (len + 1) (fun gg iv wr2 => ∃ i : Nat, len + 1 ≤ gg + i ∧ i ≤ len ∧ iv = .int .i64 (i : Int) ∧ (∀ j, j < i → symB ls c n j = false) ∧ wr2 = wr)
    case atStart => exact ⟨0, by omega, by omega, rfl, (fun j hj => by omega), rfl⟩
    case round =>
      obtain ⟨i, hgg2, hil, rfl, hno, rfl⟩ := hrel
      have HNO := Lib.hid hno
      clear hno
      by_cases hi : i < len
      · have gi : decide ((i : Int) < (len : Int)) = true := decide_eq_true (by omega)
        have gi' : decide (i < len) = true := decide_eq_true hi
        obtain ⟨m, hmm⟩ : ∃ m, ls[i]? = some m := ⟨_, List.getElem?_eq_getElem (by rw [H.out.2.2.2.2.2.1]; exact hi)⟩
        have hgd : ls.getD i 0 = m := by rw [List.getD_eq_getElem?_getD, hmm]; rfl
        have hm15 := H.out.2.1 m (List.mem_of_getElem? hmm)
        have hsl := HO.out.2.2.1
        rw [H.out.2.2.2.2.2.1] at hsl
        obtain ⟨b, off, rfl, hcell⟩ := hsl.2.resolve_left (by omega)
        have hci := hcell i hi
        rw [ints_at hmm] at hci
        have wm : IntKind.i64.wrap (m : Int) = (m : Int) := IntWalk.i64_in _ (by omega)
        have wi : IntKind.i64.wrap ((i : Int) + 1) = (i : Int) + 1 := IntWalk.i64_in _ (by omega)
        have hoc := HO.out.2.1
        have hgl : (ints (codesC ls)).length = len := by rw [ints_length]; unfold codesC; rw [csAt_len, H.out.2.2.2.2.2.1]
        obtain ⟨g, cp, hcv⟩ := own_row hoc (by rw [hgl]; omega)
        rw [hgl] at hcv
        rw [hcv] at hoc c17
        obtain ⟨y1, -⟩ := own_cell hoc i (by omega)
        have hcx := codesC_at (s := i) (by rw [H.out.2.2.2.2.2.1]; exact hi) (by rw [hgd]; exact hm15)
        rw [ints_at hcx] at y1
        obtain ⟨CL, hCL⟩ : ∃ z, codeL ls i = z := ⟨_, rfl⟩
        rw [hCL] at y1
        have hhit : symB ls c n i = decide (0 < n ∧ m = n ∧ CL = c) := by unfold symB; rw [hgd, hCL]
        have step : symB ls c n i = false → ∀ j, j < i + 1 → symB ls c n j = false := fun h j hj => by
          rcases Nat.lt_or_ge j i with h1 | h1
          · exact HNO.out j h1
          · obtain rfl : j = i := by omega
            exact h
        have HH := Lib.hid (And.intro hhit (And.intro step (And.intro hmm hCL)))
        clear hhit step hCL hcx hcell hsl hoc hgl hcv hgd hmm
        by_cases h1 : n = 0
        · have g1 : decide ((0 : Int) < (n : Int)) = false := decide_eq_false (by omega)
          have g1' : decide (0 < n) = false := decide_eq_false (by omega)
          have HF := Lib.hid (HH.out.2.1 (by rw [HH.out.1]; exact decide_eq_false (fun h => by omega)))
          clear h1
          go_wp2
          go_roundg (gk - 1)
          case rel => exact ⟨i + 1, by omega, by omega, by simp, HF.out, rfl⟩
          case measure => omega
        have g1 : decide ((0 : Int) < (n : Int)) = true := decide_eq_true (by omega)
        have g1' : decide (0 < n) = true := decide_eq_true (by omega)
        by_cases h2 : m = n
        · subst h2
          by_cases h3 : CL = c
          · subst h3
            have hrng := code_rng HH.out.2.2.1 (by omega)
            rw [HH.out.2.2.2] at hrng
            have hsc := srt_code HH.out.2.2.1 ⟨by omega, hm15⟩
            rw [HH.out.2.2.2] at hsc
            have hRe : R = ⟨i, m, 0⟩ := by
              have h9 := HN.out.2.2.1
              unfold decAt at h9
              rw [if_pos hrng.2, hsc] at h9
              exact h9.symm
            subst hRe
            clear hrng hsc
            go_wp2
            exact bodyPost_ret (v := .tuple #[.int .i64 (i : Int), .int .i64 0]) (by simp [results, Try.results16, go_sem]) rfl ⟨rfl, HN.out.2.2.2.1, HN.out.2.2.2.2⟩
          · have g3 : ((CL : Int) == (c : Int)) = false := by simp; omega
            have HF := Lib.hid (HH.out.2.1 (by rw [HH.out.1]; exact decide_eq_false (fun h => h3 h.2.2)))
            clear h1 h3
            go_wp2
            go_roundg (gk - 1)
            case rel => exact ⟨i + 1, by omega, by omega, by simp, HF.out, rfl⟩
            case measure => omega
        · have g2 : ((m : Int) == (n : Int)) = false := by simp; omega
          have HF := Lib.hid (HH.out.2.1 (by rw [HH.out.1]; exact decide_eq_false (fun h => h2 h.2.1)))
          clear h1 h2
          go_wp2
          go_roundg (gk - 1)
          case rel => exact ⟨i + 1, by omega, by omega, by simp, HF.out, rfl⟩
          case measure => omega
      · obtain rfl : i = len := by omega
        have hun : fst ls n + cnt ls n ≤ c := by
          rcases Nat.lt_or_ge c (fst ls n + cnt ls n) with h | h
          · exfalso
            rcases Nat.eq_zero_or_pos n with h0 | h0
            · subst h0; exact absurd h (Nat.not_lt_zero _)
            · obtain ⟨s, h1, h2, -⟩ := sym_code h0 HN.out.2.1 h
              have h3 := (List.getElem?_eq_some_iff.1 h1).1
              have h4 := HNO.out s (by rw [← H.out.2.2.2.2.2.1]; exact h3)
              have h5 : ls.getD s 0 = n := by rw [List.getD_eq_getElem?_getD, h1]; rfl
              unfold symB at h4
              rw [h5] at h4
              exact (of_decide_eq_false h4) ⟨h0, rfl, h2⟩
          · exact h
        have hdec := HN.out.2.2.1
        unfold decAt at hdec
        rw [if_neg (by omega), show 16 - n = (15 - n) + 1 by omega, dec] at hdec
        have hop := open_iff H.out.2.1 H.out.2.2.2.1 hn15 HN.out.1 hun
        have HB := Lib.hid (begins_any wr a ls cv la lc HO.out H.out.2.1 H.out.2.2.1 H.out.2.2.2.2.1 c n hn15)
        rw [hop] at HB
        obtain ⟨M, hM⟩ : ∃ M, mx ls = M := ⟨_, rfl⟩
        have hMb : M ≤ 15 := by rw [← hM]; exact mx_le H.out.2.1
        rw [hM] at HB hdec
        clear hop hM c17
        by_cases hm : M ≤ n
        · rw [if_pos hm] at hdec
          rw [decide_eq_true hm] at HB
          subst hdec
          have HRB := Lib.hid (And.intro (HN.out.2.2.2.1.back ht8) (HN.out.2.2.2.2.then ((Kept.refl (fun i => i = q) wr).setCell (p := ⟨q, 1, none⟩) (.inl rfl) (.int .i64 (t : Int)))))
          clear hun hm
          go_wp2_with fail
          refine HB.out.mono ?_
          rintro e w' ⟨rfl, rfl⟩
          go_wp2
          exact bodyPost_ret (v := .tuple #[.int .i64 0, .int .i64 3]) (by simp [results, Try.results16, go_sem]) rfl ⟨rfl, HRB.out⟩
        rw [if_neg hm] at hdec
        rw [decide_eq_false hm] at HB
        by_cases ha : LF ≤ n
        · rw [if_pos ha] at hdec
          subst hdec
          have HBN := Lib.hid (refBits_no q ba bl bc (t + n) 1 xs wr HN.out.2.2.2.1 (by omega))
          clear hun hm ha
          go_wp2_with fail
          refine HB.out.mono ?_
          rintro e w' ⟨rfl, rfl⟩
          go_wp2_with fail
          refine HBN.out.mono ?_
          rintro e w3 ⟨rfl, m3, hw3⟩
          have hk3 : Kept (fun _ => False) w' w3 := by rw [hw3]; exact (Kept.refl (fun _ => False) _).drewN m3
          have hrf3 := HN.out.2.2.2.1.kept hk3 id (fun _ _ _ _ => id)
          obtain ⟨-, z1, z2⟩ := blk2 hrf3.1
          have HRB := Lib.hid (And.intro (hrf3.back ht8) ((HN.out.2.2.2.2.trans (hk3.mono (fun _ _ h => h.elim))).then ((Kept.refl (fun i => i = q) w3).setCell (p := ⟨q, 1, none⟩) (.inl rfl) (.int .i64 (t : Int)))))
          clear hk3 hrf3 hw3
          go_wp2
          exact bodyPost_ret (v := .tuple #[.int .i64 0, .int .i64 2]) (by simp [results, Try.results16, go_sem]) rfl ⟨rfl, HRB.out⟩
        rw [if_neg ha] at hdec
        have HBY := Lib.hid (refBits_yes q ba bl bc (t + n) 1 xs wr HN.out.2.2.2.1 (by omega) (by omega))
        have hbit : bitsOf (nats xs) (t + n) 1 = bitAt xs t n := rfl
        rw [hbit] at HBY
        obtain ⟨B, hB⟩ : ∃ B, bitAt xs t n = B := ⟨_, rfl⟩
        have hB2 : B < 2 := by rw [← hB]; exact bitAt_lt _ _ _
        rw [hB] at HBY hdec
        have orr := or_one32 c B (by omega) hB2
        obtain ⟨C2, hC2⟩ : ∃ C2, 2 * c = C2 := ⟨_, rfl⟩
        have c2i : (c : Int) * 2 = (C2 : Int) := by omega
        have wc2 : IntKind.u32.wrap (C2 : Int) = (C2 : Int) := IntWalk.u32_in _ (by omega)
        obtain ⟨CC, hCC⟩ : ∃ CC, C2 + B = CC := ⟨_, rfl⟩
        have hfn : fst ls (n + 1) ≤ CC := by rw [fst]; omega
        have hcc2 : CC < 2 ^ (n + 1) := by have := HN.out.1; rw [Nat.pow_succ]; omega
        rw [hC2, hCC] at orr hdec
        have hdn : decAt ls (bitAt xs t) LF (n + 1) CC = R := by
          unfold decAt
          rw [show 16 - (n + 1) = 15 - n by omega]
          exact hdec
        have HD := Lib.hid (And.intro hdn (And.intro hfn hcc2))
        clear hun hdec hbit hB hC2 hCC hfn hcc2 hdn
        go_wp2_with fail
        refine HB.out.mono ?_
        rintro e w' ⟨rfl, rfl⟩
        go_wp2_with fail
        refine HBY.out.mono ?_
        rintro e w3 ⟨rfl, hrf3, hk3⟩
        have H3 := Lib.hid (And.intro hrf3 (HN.out.2.2.2.2.then hk3))
        clear hrf3 hk3
        go_wp2
        go_roundg (G - 1)
        case rel => exact ⟨n + 1, CC, by omega, by omega, by simp, by simp, HD.out.2.2, HD.out.2.1, HD.out.1, by omega, H3.out.1, H3.out.2⟩
        case measure => omega
end Go.Proofs.Ytndneidjnlammaa
