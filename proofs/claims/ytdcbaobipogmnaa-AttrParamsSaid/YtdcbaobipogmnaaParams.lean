/- Parameters that make an attribute: the program's Params, walked. -/
import Derived.Test.YtdcbaobipogmnaaKnown
import Derived.Test.YtdcbaobipogmnaaLAttr
import Derived.Deep.LoopGhost
namespace Go.Proofs.Ytdcbaobipogmnaa
open Go.RowKit Pl
set_option linter.unusedVariables false
set_option linter.unusedSimpArgs false
theorem Try.infoInt : (Try.prog.info? 3).map (fun i => (i.zero, i.size, i.bytes)) = some (some (.int .i64 0), 1, 8) := by kernel_rfl
theorem Own.lit (k : IntKind) {e : TypeId} (w : World) (g : Nat) (xs : List Int) (C : Array Value) (n : Nat) (hg : g = w.heap.size) (hC : C = (xs.map (Value.int k)).toArray) (hn : xs.length = n) (hm : n ≤ 1000) : Own k e (w.alloc (.cells C e)) (.slice (some ⟨g, 0, none⟩) n n) xs := by
  subst hC hn hg
  refine ⟨by simp, .inr ⟨w.heap.size, xs.length, (xs.map (Value.int k)).toArray, rfl, Nat.zero_le _, blk_new w _, Nat.le_refl _, by unfold maxLen; omega, by simp, by simp [List.take_of_length_le]⟩⟩
theorem i64_and_nat (a b : Nat) (ha : a < 9223372036854775808) (hb : b < 9223372036854775808) : bits .and .i64 (a : Int) (b : Int) = ((a &&& b : Nat) : Int) := by
  have hx : a &&& b < 2 ^ 63 := Nat.and_lt_two_pow _ (by omega)
  show IntKind.i64.wrap ((BitVec.ofInt 64 (a : Int) &&& BitVec.ofInt 64 (b : Int)).toNat : Int) = _
  rw [BitVec.toNat_and, BitVec.ofInt_natCast, BitVec.ofInt_natCast, BitVec.toNat_ofNat, BitVec.toNat_ofNat, Nat.mod_eq_of_lt (show a < 2 ^ 64 by omega), Nat.mod_eq_of_lt (show b < 2 ^ 64 by omega)]
  exact IntWalk.i64_in _ (by omega)
theorem and_255 (x : Int) (h : 0 ≤ x ∧ x < 4611686018427387904) : bits .and .i64 x 255 = x % 256 := by
  obtain ⟨a, rfl⟩ := Int.eq_ofNat_of_zero_le h.1
  rw [show (255 : Int) = ((255 : Nat) : Int) from rfl, i64_and_nat a 255 (by omega) (by omega)]
  have : a &&& 255 = a % 256 := Nat.and_two_pow_sub_one_eq_mod a 8
  omega
namespace Pl
def hasF (fl : Int) (n : Int) : Bool := flagN n != 0 && bits .and .i64 fl (flagN n) != 0
def flagsL (fl : Int) : Nat → List Int
  | 0 => []
  | k + 1 => flagsL fl k ++ (if hasF fl ((k : Int) + 1) = true then [(k : Int) + 1] else [])
def colL (i c : Int) : List Int :=
  if 33554432 ≤ c then [38 + 10 * i, 2, (c - 33554432) / 65536, (c - 33554432) / 256 % 256, (c - 33554432) % 256] else if 16777216 ≤ c then [38 + 10 * i, 5, c - 16777216] else []
def colsN (fg bg : Int) : Nat → List Int
  | 0 => []
  | 1 => colL 0 fg
  | _ => colL 0 fg ++ colL 1 bg
def params (a : Look) : List Int := 0 :: flagsL a.fl 9 ++ colsN a.fg a.bg 2
theorem flagsL_len (fl : Int) (k : Nat) : (flagsL fl k).length ≤ k := by
  induction k with
  | zero => simp [flagsL]
  | succ k ih => unfold flagsL; rw [List.length_append]; split <;> simp <;> omega
theorem colL_len (i c : Int) : (colL i c).length ≤ 5 := by unfold colL; split; simp; split <;> simp
theorem colsN_len (fg bg : Int) (k : Nat) : (colsN fg bg k).length ≤ 10 := by
  have h1 := colL_len 0 fg
  have h2 := colL_len 1 bg
  unfold colsN; split <;> simp <;> omega
theorem colsN_succ (fg bg : Int) (j : Nat) (hj : j < 2) : colsN fg bg (j + 1) = colsN fg bg j ++ colL (j : Int) (if j = 0 then fg else bg) := by
  match j, hj with
  | 0, _ => simp [colsN]
  | 1, _ => simp [colsN]
end Pl
def OutP (w : World) (a : Look) (xs : List Int) (v : Value) (wr : World) : Prop :=
  Own .i64 3 wr v xs ∧ Kept (fun _ => False) w wr ∧ (∀ b, v.ownBlock = some b → w.heap.size + 1 ≤ b) ∧ wr.heap[w.heap.size]? = some (.cells (cells3 a) 23 (0, 0))
theorem OutP.app {w wr wb w5 : World} {a : Look} {xs zs : List Int} {v v5 : Value} (h : OutP w a xs v wr) (hkb : Kept (fun _ => False) wr wb) (ho5 : Own .i64 3 w5 v5 zs) (hk5 : Kept (fun k => v.ownBlock = some k) wb w5) (hpr : v5.ownBlock = v.ownBlock ∨ v5.ownBlock = some wb.heap.size) :
    OutP w a zs v5 w5 := by
  obtain ⟨h1, h2, h3, h4⟩ := h
  have hlt := lt_of_blk h4
  have hs := hkb.size
  refine ⟨ho5, (h2.then hkb).trans (hk5.mono fun i _ hi => Or.inr (by have := h3 i hi; omega)), fun b hb => ?_, hk5.blk (hkb.blk h4 id) (fun hb => by have := h3 _ hb; omega)⟩
  rcases hpr with h | h
  · exact h3 b (h ▸ hb)
  · rw [h] at hb; have h9 := Option.some.inj hb; omega
def ParPost (a : Look) (w : World) (e : Ending) (w' : World) : Prop := ∃ ad len cap, e = .returned (.slice ad len cap) ∧ Arg w'.heap.size w' ad len cap (params a) ∧ Kept (fun _ => False) w w'
set_option maxRecDepth 100000 in
set_option maxHeartbeats 8000000 in
theorem params_any (a : Look) (w : World) (hr : rightB a = true) (hin : ∀ n ∈ params a, In n) : Calls Try.prog 19 #[.agg #[.int .i64 a.fg, .int .i64 a.bg, .int .i64 a.fl]] w (ParPost a w) := by
  rw [Pl.rightB_iff, Pl.colB_iff, Pl.colB_iff] at hr
  obtain ⟨r1, r2, r3⟩ := hr
  have R1 := Lib.hid r1
  have R2 := Lib.hid r2
  have HIN := Lib.hid hin
  obtain ⟨i0, hi, hz0, hz1, hz2⟩ := info_parts Try.infoInt
  have HI := Lib.hid (And.intro hi (And.intro hz0 (And.intro hz1 hz2)))
  clear hi hz0 hz1 hz2 r1 r2 r3 hin
  have h0 : OutP w a [0] (.slice (some ⟨w.heap.size + 1, 0, none⟩) 1 1) ((w.alloc (.cells (cells3 a) 23)).alloc (.cells #[.int .i64 0] 3)) :=
    ⟨Own.lit .i64 (w.alloc (.cells (cells3 a) 23)) (w.heap.size + 1) [0] _ 1 (by simp) rfl rfl (by omega), ((Kept.refl _ w).alloc _).alloc _, fun b hb => by cases hb; exact Nat.le_refl _, blk_alloc (blk_new _ _) _⟩
  have H0 := Lib.hid h0
  clear h0
  go_enter Try.func19, Try.ntmps19
  go_wp2_with fail
  go_loopw [3, 4] (fun v i wr => ∃ k : Nat, k ≤ 9 ∧ i = .int .i64 ((k : Int) + 1) ∧ OutP w a (0 :: flagsL a.fl k) v wr) (fun _ i _ => 10 - (intOf i).toNat)
  case atStart => exact ⟨0, by omega, rfl, H0.out⟩
  case round =>
    obtain ⟨k, hk, rfl, ho⟩ := hrel
    obtain ⟨⟨c0, f0⟩, ⟨c1, f1⟩, c2, f2⟩ := cells_of ho.2.2.2
    have hln := flagsL_len a.fl k
    obtain ⟨out, hout⟩ : ∃ out, 0 :: flagsL a.fl k = out := ⟨_, rfl⟩
    have hol : out.length ≤ 10 := by rw [← hout]; simp; omega
    have HOUT := Lib.hid hout
    rw [hout] at ho
    have HO := Lib.hid ho
    obtain ⟨a1, cp1, hvv, -⟩ := ho.1.shape
    subst hvv
    clear ho f0 f1 f2 hln
    by_cases hk9 : k < 9
    · have gk : decide ((k : Int) + 1 ≤ 9) = true := decide_eq_true (by omega)
      have hfs : flagsL a.fl (k + 1) = flagsL a.fl k ++ (if hasF a.fl ((k : Int) + 1) = true then [(k : Int) + 1] else []) := rfl
      have HFS := Lib.hid hfs
      obtain ⟨f, hf⟩ : ∃ f, flagN ((k : Int) + 1) = f := ⟨_, rfl⟩
      have HC := Lib.hid (fun w => show Calls Try.prog 20 #[.int .i64 ((k : Int) + 1)] w fun e w' => e = .returned (.int .i64 f) ∧ w = w' from by rw [← hf]; exact flag_any _ w)
      have hhf : hasF a.fl ((k : Int) + 1) = (f != 0 && bits .and .i64 a.fl f != 0) := by unfold hasF; rw [hf]
      obtain ⟨z, hz⟩ : ∃ z, bits .and .i64 a.fl f = z := ⟨_, rfl⟩
      rw [hz] at hhf
      by_cases q1 : f = 0
      · have g1 : (f != 0) = false := by simp [q1]
        have HH := Lib.hid (show hasF a.fl ((k : Int) + 1) = false by rw [hhf, g1]; rfl)
        clear hhf hf q1 hfs hout
        go_wp2_with (go_at_call 20; refine (HC.out _).mono ?_; rintro e w' ⟨rfl, rfl⟩)
        go_roundw
        case rel => exact ⟨k + 1, by omega, by go_num, by rw [HFS.out, HH.out, if_neg (by simp), List.append_nil, HOUT.out]; exact HO.out⟩
        case measure => simp [intOf]; omega
      have g1 : (f != 0) = true := by simp [q1]
      by_cases q2 : z = 0
      · have g2 : (z != 0) = false := by simp [q2]
        have HH := Lib.hid (show hasF a.fl ((k : Int) + 1) = false by rw [hhf, g2, Bool.and_false])
        clear hhf hf q1 q2 hfs hout
        go_wp2_with (go_at_call 20; refine (HC.out _).mono ?_; rintro e w' ⟨rfl, rfl⟩)
        go_roundw
        case rel => exact ⟨k + 1, by omega, by go_num, by rw [HFS.out, HH.out, if_neg (by simp), List.append_nil, HOUT.out]; exact HO.out⟩
        case measure => simp [intOf]; omega
      have g2 : (z != 0) = true := by simp [q2]
      have HH := Lib.hid (show hasF a.fl ((k : Int) + 1) = true by rw [hhf, g1, g2]; rfl)
      clear hhf hf q1 q2 hfs hout
      go_wp2_with (first
        | (go_at_call 20; refine (HC.out _).mono ?_; rintro e w' ⟨rfl, rfl⟩)
        | (at_builtin; refine wpList_appInts rfl (.tmp 24) (.tmp 26) 24 rfl 3 .i64 i0 (.int .i64 0) 8 Try.underlying24 HI.out.1 HI.out.2.1 HI.out.2.2.1 HI.out.2.2.2 rfl (.slice a1 out.length cp1) out rfl (HO.out.1.kept ((Kept.refl (fun _ => False) wr).alloc _) (fun _ _ => id)) (some ⟨wr.heap.size, 0, none⟩) 1 1 [(k : Int) + 1] rfl (fun h => by cases h) (slAt_lit wr [(k : Int) + 1] 1 _ 3 rfl rfl) (by omega) (by simp [maxLen]; omega) ?_; intro v5 w5 ho5 hk5 hpr5; have HO5 := Lib.hid (HO.out.app ((Kept.refl (fun _ => False) wr).alloc (.cells #[.int .i64 ((k : Int) + 1)] 3)) ho5 hk5 hpr5); clear ho5 hpr5 hk5))
      go_roundw
      case rel => exact ⟨k + 1, by omega, by go_num, by rw [HFS.out, HH.out, if_pos rfl, ← List.cons_append, HOUT.out]; exact HO5.out⟩
      case measure => simp [intOf]; omega
    · obtain rfl : k = 9 := by omega
      have gk : decide ((9 : Int) + 1 ≤ 9) = false := by decide
      have ix0 : ∀ w, (Instr.index 52 (.agg #[.int .i64 a.fg, .int .i64 a.bg]) (.int .i64 0)).run Try.prog w = .ok (.int .i64 a.fg) w := fun _ => by kernel_rfl
      have ix1 : ∀ w, (Instr.index 52 (.agg #[.int .i64 a.fg, .int .i64 a.bg]) (.int .i64 1)).run Try.prog w = .ok (.int .i64 a.bg) w := fun _ => by kernel_rfl
      have IX := Lib.hid (show ∀ j : Nat, j < 2 → ∀ w, (Instr.index 52 (.agg #[.int .i64 a.fg, .int .i64 a.bg]) (.int .i64 (j : Int))).run Try.prog w = .ok (.int .i64 (if j = 0 then a.fg else a.bg)) w from fun j hj w => by
        match j, hj with
        | 0, _ => exact ix0 w
        | 1, _ => exact ix1 w)
      clear ix0 ix1 hout
      go_wp2
      obtain ⟨wo, hwo⟩ : ∃ wo : World, wo = wr := ⟨_, rfl⟩
      rw [← hwo] at HO ⊢
      have HWO := Lib.hid hwo
      clear hwo c0 c1 c2
      go_loopg [3, 6, 7, 33] 2 (fun g v _ _ i wr => ∃ j : Nat, j ≤ 2 ∧ 2 ≤ g + j ∧ i = .int .i64 j ∧ OutP w a (out ++ colsN a.fg a.bg j) v wr)
      case atStart => exact ⟨0, by omega, by omega, rfl, by rw [show colsN a.fg a.bg 0 = [] from rfl, List.append_nil]; exact HO.out⟩
      case round =>
        obtain ⟨j, hj, hg, rfl, ho⟩ := hrel
        have hcl := colsN_len a.fg a.bg j
        obtain ⟨o2, ho2⟩ : ∃ o2, out ++ colsN a.fg a.bg j = o2 := ⟨_, rfl⟩
        have hol2 : o2.length ≤ 20 := by rw [← ho2]; simp; omega
        have HO2 := Lib.hid ho2
        rw [ho2] at ho
        have HOJ := Lib.hid ho
        obtain ⟨a2, cp2, hvv, hsl, hc2, hm2, -⟩ := ho.1.shape
        subst hvv
        have HSL := Lib.hid hsl
        have HOWN := Lib.hid ho
        clear ho hcl ho2 hsl
        by_cases hj2 : j < 2
        · have gj : decide (j < 2) = true := decide_eq_true hj2
          have hix := IX.out j hj2
          have hcs := colsN_succ a.fg a.bg j hj2
          obtain ⟨c, hc⟩ : ∃ c, (if j = 0 then a.fg else a.bg) = c := ⟨_, rfl⟩
          have hcr : c = 0 ∨ (16777216 ≤ c ∧ c < 16777472) ∨ (33554432 ≤ c ∧ c < 50331648) := by rw [← hc]; split; exact R1.out; exact R2.out
          rw [hc] at hix hcs
          clear hc
          by_cases z1 : 33554432 ≤ c
          · have g1 : decide (33554432 ≤ c) = true := decide_eq_true z1
            obtain ⟨v, hv⟩ : ∃ v, c = v + 33554432 := ⟨c - 33554432, by omega⟩
            subst hv
            have hcl : colL (j : Int) (v + 33554432) = [38 + 10 * (j : Int), 2, v / 65536, v / 256 % 256, v % 256] := by unfold colL; rw [if_pos z1, show v + 33554432 - 33554432 = v by omega]
            have HL := Lib.hid (show o2 ++ [38 + 10 * (j : Int), 2, v / 65536, v / 256 % 256, v % 256] = out ++ colsN a.fg a.bg (j + 1) by rw [hcs, hcl, ← HO2.out, List.append_assoc])
            clear hcl hcs
            have m1 := and_255 (v / 256) (by omega)
            have m2 := and_255 v (by omega)
            go_wp2_with (at_builtin; refine wpList_appInts rfl (.tmp 42) (.tmp 53) 24 rfl 3 .i64 i0 (.int .i64 0) 8 Try.underlying24 HI.out.1 HI.out.2.1 HI.out.2.2.1 HI.out.2.2.2 rfl (.slice a2 o2.length cp2) o2 rfl (HOJ.out.1.kept ((Kept.refl (fun _ => False) wr).alloc _) (fun _ _ => id)) (some ⟨wr.heap.size, 0, none⟩) 5 5 [38 + 10 * (j : Int), 2, v / 65536, v / 256 % 256, v % 256] rfl (fun h => by cases h) (slAt_lit wr [38 + 10 * (j : Int), 2, v / 65536, v / 256 % 256, v % 256] 5 _ 3 rfl rfl) (by omega) (by simp [maxLen]; omega) ?_; intro v5 w5 ho5 hk5 hpr5; have HO5 := Lib.hid (HOJ.out.app ((Kept.refl (fun _ => False) wr).alloc (.cells #[.int .i64 (38 + 10 * (j : Int)), .int .i64 (2), .int .i64 (v / 65536), .int .i64 (v / 256 % 256), .int .i64 (v % 256)] 3)) ho5 hk5 hpr5); clear ho5 hpr5 hk5)
            go_roundg (gk - 1)
            case rel => exact ⟨j + 1, by omega, by omega, by go_num, by rw [← HL.out]; exact HO5.out⟩
            case measure => omega
          have g1 : decide (33554432 ≤ c) = false := decide_eq_false z1
          by_cases z2 : 16777216 ≤ c
          · have g2 : decide (16777216 ≤ c) = true := decide_eq_true z2
            have hcl : colL (j : Int) c = [38 + 10 * (j : Int), 5, c - 16777216] := by unfold colL; rw [if_neg z1, if_pos z2]
            have HL := Lib.hid (show o2 ++ [38 + 10 * (j : Int), 5, c - 16777216] = out ++ colsN a.fg a.bg (j + 1) by rw [hcs, hcl, ← HO2.out, List.append_assoc])
            clear hcl hcs
            go_wp2_with (at_builtin; refine wpList_appInts rfl (.tmp 58) (.tmp 64) 24 rfl 3 .i64 i0 (.int .i64 0) 8 Try.underlying24 HI.out.1 HI.out.2.1 HI.out.2.2.1 HI.out.2.2.2 rfl (.slice a2 o2.length cp2) o2 rfl (HOJ.out.1.kept ((Kept.refl (fun _ => False) wr).alloc _) (fun _ _ => id)) (some ⟨wr.heap.size, 0, none⟩) 3 3 [38 + 10 * (j : Int), 5, c - 16777216] rfl (fun h => by cases h) (slAt_lit wr [38 + 10 * (j : Int), 5, c - 16777216] 3 _ 3 rfl rfl) (by omega) (by simp [maxLen]; omega) ?_; intro v5 w5 ho5 hk5 hpr5; have HO5 := Lib.hid (HOJ.out.app ((Kept.refl (fun _ => False) wr).alloc (.cells #[.int .i64 (38 + 10 * (j : Int)), .int .i64 (5), .int .i64 (c - 16777216)] 3)) ho5 hk5 hpr5); clear ho5 hpr5 hk5)
            go_roundg (gk - 1)
            case rel => exact ⟨j + 1, by omega, by omega, by go_num, by rw [← HL.out]; exact HO5.out⟩
            case measure => omega
          have g2 : decide (16777216 ≤ c) = false := decide_eq_false z2
          have hcl : colL (j : Int) c = [] := by unfold colL; rw [if_neg z1, if_neg z2]
          have HL := Lib.hid (show o2 = out ++ colsN a.fg a.bg (j + 1) by rw [hcs, hcl, List.append_nil, HO2.out])
          clear hcl hcs
          go_wp2
          go_roundg (gk - 1)
          case rel => exact ⟨j + 1, by omega, by omega, by go_num, by rw [← HL.out]; exact HOJ.out⟩
          case measure => omega
        · obtain rfl : j = 2 := by omega
          go_wp2
          go_ret
          have hp : o2 = params a := by rw [← HO2.out, ← HOUT.out]; rfl
          refine ⟨a2, o2.length, cp2, rfl, ⟨by rw [← hp]; exact HSL.out, hc2, by unfold maxLen at hm2; omega, fun b off h0 he => ?_, HIN.out⟩, HOJ.out.2.1⟩
          subst he
          obtain ⟨b', o', he', hc'⟩ := HSL.out.2.resolve_left (by omega)
          cases he'
          exact lt_of_cell (hc' 0 (by omega))
end Go.Proofs.Ytdcbaobipogmnaa
