/- Characters as bytes. -/
import Derived.Test.YtmplpcmcbliadaaGreatDoorBx11
import Derived.Test.YtmplpcmcbliadaaGreatDoorBx0
set_option linter.unusedVariables false
set_option linter.unusedSimpArgs false
namespace Go.Proofs.YtmplpcmcbliadaaGreatDoor.Pl
def chI (r : Int) : Nat := if noneB r = true then 65533 else r.toNat
def encN (r : Nat) : List Nat :=
 if r < 128 then [r] else if r < 2048 then [192 + r / 64, 128 + r % 64] else if r < 65536 then [224 + r / 4096, 128 + r / 64 % 64, 128 + r % 64] else [240 + r / 262144, 128 + r / 4096 % 64, 128 + r / 64 % 64, 128 + r % 64]
def enc (r : Int) : List Nat := encN (chI r)
theorem chI_ok (r : Int) : chI r < 1114112 /\ ¬ (55296 <= chI r /\ chI r <= 57343) := by
 unfold chI
 split
 ·omega
 ·rename_i h
  have h' : ¬ (r < 0 \/ (55296 <= r /\ r <= 57343) \/ 1114111 < r) := fun hh => h (decide_eq_true hh)
  omega
theorem enc_len (r : Int) : 1 <= (enc r).length /\ (enc r).length <= 4 := by
 unfold enc encN
 split
 ·simp
 ·split
  ·simp
  ·split <;> simp
theorem enc_lt (r : Int) : ∀ b ∈ enc r, b < 256 := by
 obtain ⟨h1, h2⟩ := chI_ok r
 unfold enc encN
 intro b hb
 split at hb
 ·simp at hb; omega
 ·split at hb
  ·simp at hb; omega
  ·split at hb
   ·simp at hb; omega
   ·simp at hb; omega
def encs : List Int -> List Nat
 | [] => []
 | r :: l => enc r ++ encs l
end Go.Proofs.YtmplpcmcbliadaaGreatDoor.Pl
namespace Go.Proofs.YtmplpcmcbliadaaGreatDoor
open Go.RowKit Pl
def ints (l : List Nat) : List Int := l.map (fun (n : Nat) => (n : Int))
def EncPost (res : List Int) (w : World) (en : Ending) (w' : World) : Prop := ∃ v, en = .returned v /\ Own .u8 5 w' v res /\ Kept (fun _ => False) w w' /\ ∀ b, v.ownBlock = some b -> w.heap.size <= b
theorem Own.retag {k : IntKind} {e : TypeId} {w : World} {v : Value} {xs ys : List Int} (h : Own k e w v xs) (hy : ys = xs) : Own k e w v ys := hy ▸ h
theorem i32_and_nat (a b : Nat) (ha : a < 2147483648) (hb : b < 2147483648) : bits .and .i32 (a : Int) (b : Int) = ((a &&& b : Nat) : Int) := by
 have hx : a &&& b < 2 ^ 31 := Nat.and_lt_two_pow _ (by omega)
 show IntKind.i32.wrap ((BitVec.ofInt 32 (a : Int) &&& BitVec.ofInt 32 (b : Int)).toNat : Int) = _
 rw [BitVec.toNat_and, BitVec.ofInt_natCast, BitVec.ofInt_natCast, BitVec.toNat_ofNat, BitVec.toNat_ofNat, Nat.mod_eq_of_lt (show a < 2 ^ 32 by omega), Nat.mod_eq_of_lt (show b < 2 ^ 32 by omega), IntKind.wrap_i32]
 omega
theorem or_lead (l q s : Nat) (hq : q < 2 ^ s) (hl : l * 2 ^ s < 2147483648) (hq2 : q < 2147483648) : bits .or .i32 ((l * 2 ^ s : Nat) : Int) (q : Int) = ((l * 2 ^ s + q : Nat) : Int) := by
 rw [i32_or_nat _ _ hl hq2, or_join _ _ _ hq]
theorem and63 (q : Nat) (hq : q < 2147483648) : bits .and .i32 (q : Int) 63 = ((q % 64 : Nat) : Int) := by
 rw [show (63 : Int) = ((63 : Nat) : Int) from rfl, i32_and_nat _ _ hq (by omega), show 63 = 2 ^ 6 - 1 by decide, Nat.and_two_pow_sub_one_eq_mod]
theorem or128 (x : Nat) (hx : x < 64) : bits .or .i32 128 (x : Int) = ((128 + x : Nat) : Int) := by
 have h := or_lead 2 x 6 (by omega) (by omega) (by omega)
 simpa using h
theorem ints_append (a b : List Nat) : ints (a ++ b) = ints a ++ ints b := by simp [ints]
theorem ints_length (a : List Nat) : (ints a).length = a.length := by simp [ints]
theorem encs_snoc (l : List Int) (k : Nat) (h : k < l.length) : encs (l.take (k + 1)) = encs (l.take k) ++ enc l[k] := by
 rw [List.take_succ_eq_append_getElem h]
 have : ∀ a b : List Int, encs (a ++ b) = encs a ++ encs b := by
  intro a b
  induction a with
  | nil => rfl
  | cons x a ih => simp only [List.cons_append, encs, ih, List.append_assoc]
 rw [this]
 simp [encs]
theorem encs_len (l : List Int) : (encs l).length <= 4 * l.length := by
 induction l with
 | nil => simp [encs]
 | cons r l ih => have := enc_len r; simp only [encs, List.length_append, List.length_cons]; omega
theorem app_own {w wr wa w5 : World} {v v5 : Value} (hkr : Kept (fun _ => False) w wr) (hka : Kept (fun _ => False) wr wa) (hv : ∀ b, v.ownBlock = some b -> w.heap.size <= b) (hk5 : Kept (fun k => v.ownBlock = some k) wa w5) (hpr : v5.ownBlock = v.ownBlock \/ v5.ownBlock = some wa.heap.size) :
  Kept (fun _ => False) w w5 /\ ∀ b, v5.ownBlock = some b -> w.heap.size <= b := by
 have h1 := hkr.then hka
 have hz := h1.size
 refine ⟨h1.trans (hk5.mono (fun i _ h => Or.inr (hv i h))), fun b hb => ?_⟩
 rcases hpr with h | h
 ·exact hv b (h ▸ hb)
 ·rw [h] at hb; have h9 := Option.some.inj hb; omega
set_option maxRecDepth 100000 in
set_option maxHeartbeats 8000000 in
theorem enc_any (a : Option Addr) (len cap : Nat) (l : List Int) (w : World) (hs : SlAt .i32 w a len l) (hl : len <= 1000) (hw : ∀ r ∈ l, -2147483648 <= r /\ r <= 2147483647) :
  Calls Tryz.prog 66 #[.slice a len cap] w (EncPost (ints (encs l)) w) := by
 have hxl := hs.1
 have HS := Lib.hid hs
 obtain ⟨i0, hi, hz0, hz1, hz2⟩ := info_parts Tryz.infoByte
 have HI := Lib.hid (And.intro hi (And.intro hz0 (And.intro hz1 hz2)))
 clear hi hz0 hz1 hz2 hs
 go_enter Tryz.func66, Tryz.ntmps66
 go_wp2
 go_loopw [3, 10] (fun v i wr => ∃ k : Nat, k <= len /\ i = .int .i64 k /\ Own .u8 5 wr v (ints (encs (l.take k))) /\ (∀ b, v.ownBlock = some b -> w.heap.size <= b) /\ Kept (fun _ => False) w wr) (fun _ i _ => len - (intOf i).toNat)
 case atStart => exact ⟨0, by omega, rfl, Own.nil _ _ _, (fun b h => by cases h), Kept.refl _ _⟩
 case round =>
  obtain ⟨k, hk, rfl, ho, hf, hkr⟩ := hrel
  obtain ⟨a1, cp1, hv1, -⟩ := ho.shape
  subst hv1
  have HO := Lib.hid ho
  have HF := Lib.hid hf
  have hln := encs_len (l.take k)
  have hlk : (l.take k).length <= k := List.length_take_le _ _
  clear ho hf
  by_cases hkl : k < len
  ·obtain ⟨b, off, rfl, hc⟩ := HS.out.2.resolve_left (by omega)
   have hcell := hkr.cell (hc k hkl) id
   rw [show l.getD k 0 = l[k] by simp [List.getD_eq_getElem?_getD, hxl, hkl]] at hcell
   have hsn := encs_snoc l k (by omega)
   have hwr := hw l[k] (List.getElem_mem _)
   obtain ⟨r, hr⟩ : ∃ r, l[k] = r := ⟨_, rfl⟩
   rw [hr] at hcell hsn hwr
   have hI : ∀ w, Calls Tryz.prog 107 #[.int .i32 r] w fun e w' => e = .returned (.bool (!noneB r)) /\ w = w' := fun w => is_any r w
   obtain ⟨B, hB⟩ : ∃ B, encs (l.take k) = B := ⟨_, rfl⟩
   rw [hB] at HO HF hsn hln ⊢
   rw [ints_length] at HO HF ⊢
   cases hn : noneB r with
   | true =>
    have hec : enc r = [239, 191, 189] := by unfold enc chI; rw [if_pos hn]; rfl
    rw [hec] at hsn
    rw [hn] at hI
    have HIS := Lib.hid hI
    clear hI hn hec hr hB hwr hc
    have hlead : bits BinOp.or IntKind.i32 224 15 = 239 := by decide
    have hx1 : bits BinOp.and IntKind.i32 1023 63 = 63 := by decide
    have hx2 : bits BinOp.or IntKind.i32 128 63 = 191 := by decide
    have hx3 : bits BinOp.and IntKind.i32 65533 63 = 61 := by decide
    have hx4 : bits BinOp.or IntKind.i32 128 61 = 189 := by decide
    have o1 : bits BinOp.or IntKind.i32 0 16 = 16 := by decide
    have o2 : bits BinOp.or IntKind.i32 16 32 = 48 := by decide
    have o3 : bits BinOp.or IntKind.i32 48 192 = 240 := by decide
    have o4 : bits BinOp.or IntKind.i32 0 32 = 32 := by decide
    have o5 : bits BinOp.or IntKind.i32 32 192 = 224 := by decide
    have o6 : bits BinOp.or IntKind.i32 0 192 = 192 := by decide
    have HSN := Lib.hid hsn
    clear hsn
    go_wp2_with (first
     | (go_at_call 107; refine (HIS.out _).mono ?_; rintro e w' ⟨rfl, rfl⟩)
     | (at_builtin; refine wpList_appInts rfl (.tmp 38) (.tmp 46) 22 rfl 5 .u8 i0 (.int .u8 0) 1 Tryz.underlying22 HI.out.1 HI.out.2.1 HI.out.2.2.1 HI.out.2.2.2 rfl (.slice a1 B.length cp1) (ints B) rfl (HO.out.kept ((Kept.refl (fun _ => False) wr).alloc (.cells #[.int .u8 (239 : Int)] 5)) (fun _ _ => id)) (some ⟨wr.heap.size, 0, none⟩) 1 1 [(239 : Int)] rfl (fun h => by cases h) (slAt_one wr _ 5) (by rw [ints_length]; omega) (by rw [ints_length]; simp [maxLen]; omega) ?_; intro v5 w5 ho5 hk5 hpr5; have HO5 := Lib.hid ho5; have HP5 := Lib.hid hpr5; clear ho5 hpr5))
    obtain ⟨q1, q2⟩ := app_own hkr ((Kept.refl (fun _ => False) wr).alloc (.cells #[.int .u8 (239 : Int)] 5)) HF.out hk5 HP5.out
    have hst : Own .u8 5 w5 v5 (ints B ++ ints ([239, 191, 189].take (0 + 1))) := HO5.out
    have HST := Lib.hid hst
    clear hlead hst
    go_loopw [3, 6] (fun v m wi => ∃ (j : Nat) (mi : Int), j <= 2 /\ mi = 1 - (j : Int) /\ m = .int .i64 mi /\ Own .u8 5 wi v (ints B ++ ints ([239, 191, 189].take (j + 1))) /\ (∀ b, v.ownBlock = some b -> w.heap.size <= b) /\ Kept (fun _ => False) w wi) (fun _ m _ => (intOf m + 1).toNat)
    case atStart => exact ⟨0, 1, by omega, by omega, rfl, HST.out, q2, q1⟩
    case round =>
     obtain ⟨j, mi, hj, hmi, rfl, ho, hf, hki⟩ := hrel
     obtain ⟨a2, cp2, hv2, -⟩ := ho.shape
     have HO2 := Lib.hid ho
     have HF2 := Lib.hid hf
     clear ho hf
     rcases (show j = 0 \/ j = 1 \/ j = 2 by omega) with rfl | rfl | rfl
     ·obtain rfl : mi = 1 := by omega
      clear hmi
      rw [show (ints B ++ ints ([239, 191, 189].take (0 + 1))).length = B.length + 1 by simp [ints]] at hv2
      subst hv2
      go_wp2_with (at_builtin; refine wpList_appInts rfl (.tmp 54) (.tmp 62) 22 rfl 5 .u8 i0 (.int .u8 0) 1 Tryz.underlying22 HI.out.1 HI.out.2.1 HI.out.2.2.1 HI.out.2.2.2 rfl (.slice a2 (B.length + 1) cp2) _ rfl (HO2.out.kept ((Kept.refl (fun _ => False) wr).alloc (.cells #[.int .u8 (191 : Int)] 5)) (fun _ _ => id)) (some ⟨wr.heap.size, 0, none⟩) 1 1 [(191 : Int)] rfl (fun h => by cases h) (slAt_one wr _ 5) (by simp [ints]; omega) (by simp [ints, maxLen]; omega) ?_; intro v6 w6 ho6 hk6 hpr6; have HO6 := Lib.hid ho6; have HP6 := Lib.hid hpr6; clear ho6 hpr6)
      obtain ⟨r1, r2⟩ := app_own hki ((Kept.refl (fun _ => False) wr).alloc (.cells #[.int .u8 (191 : Int)] 5)) HF2.out hk6 HP6.out
      go_roundw
      case rel => exact ⟨1, 0, by omega, by omega, by first | rfl | go_num, HO6.out.retag (by simp [ints]), r2, r1⟩
      case measure => simp [intOf]
     ·obtain rfl : mi = 0 := by omega
      clear hmi
      rw [show (ints B ++ ints ([239, 191, 189].take (1 + 1))).length = B.length + 2 by simp [ints]] at hv2
      subst hv2
      go_wp2_with (at_builtin; refine wpList_appInts rfl (.tmp 54) (.tmp 62) 22 rfl 5 .u8 i0 (.int .u8 0) 1 Tryz.underlying22 HI.out.1 HI.out.2.1 HI.out.2.2.1 HI.out.2.2.2 rfl (.slice a2 (B.length + 2) cp2) _ rfl (HO2.out.kept ((Kept.refl (fun _ => False) wr).alloc (.cells #[.int .u8 (189 : Int)] 5)) (fun _ _ => id)) (some ⟨wr.heap.size, 0, none⟩) 1 1 [(189 : Int)] rfl (fun h => by cases h) (slAt_one wr _ 5) (by simp [ints]; omega) (by simp [ints, maxLen]; omega) ?_; intro v6 w6 ho6 hk6 hpr6; have HO6 := Lib.hid ho6; have HP6 := Lib.hid hpr6; clear ho6 hpr6)
      obtain ⟨r1, r2⟩ := app_own hki ((Kept.refl (fun _ => False) wr).alloc (.cells #[.int .u8 (189 : Int)] 5)) HF2.out hk6 HP6.out
      go_roundw
      case rel => exact ⟨2, -1, by omega, by omega, by first | rfl | go_num, HO6.out.retag (by simp [ints]), r2, r1⟩
      case measure => simp [intOf]
     ·obtain rfl : mi = -1 := by omega
      clear hmi
      rw [show (ints B ++ ints ([239, 191, 189].take (2 + 1))).length = B.length + 3 by simp [ints]] at hv2
      subst hv2
      go_wp2
      go_roundw
      case rel => exact ⟨k + 1, by omega, by go_num, HO2.out.retag (by rw [HSN.out, ints_append]; rfl), HF2.out, hki⟩
      case measure => simp [intOf]; omega
   | false =>
    have hr2 : ¬ (r < 0 \/ (55296 <= r /\ r <= 57343) \/ 1114111 < r) := of_decide_eq_false hn
    obtain ⟨c, rfl⟩ : ∃ c : Nat, r = c := ⟨r.toNat, by omega⟩
    have hec : enc (c : Int) = encN c := by unfold enc chI; rw [if_neg (by rw [hn]; simp)]; simp
    rw [hec] at hsn
    rw [hn] at hI
    have HIS := Lib.hid hI
    have hcl : c < 1114112 := by omega
    clear hI hn hec hr hB hwr hc
    by_cases z1 : c < 128
    ·have g1 : decide ((65536 : Int) <= (c : Int)) = false := decide_eq_false (by omega)
     have g2 : decide ((2048 : Int) <= (c : Int)) = false := decide_eq_false (by omega)
     have g3 : decide ((128 : Int) <= (c : Int)) = false := decide_eq_false (by omega)
     have hlead : bits BinOp.or IntKind.i32 0 (c : Int) = (c : Int) := by
      have h := or_lead 0 c 7 (by omega) (by omega) (by omega)
      simpa using h
     have hw0 : IntKind.u8.wrap (c : Int) = (c : Int) := by rw [IntKind.wrap_u8]; omega
     have hE : encN c = [c] := if_pos z1
     rw [hE] at hsn
     have HSN := Lib.hid hsn
     clear hsn hE
     go_wp2_with (first
      | (go_at_call 107; refine (HIS.out _).mono ?_; rintro e w' ⟨rfl, rfl⟩)
      | (at_builtin; refine wpList_appInts rfl (.tmp 38) (.tmp 46) 22 rfl 5 .u8 i0 (.int .u8 0) 1 Tryz.underlying22 HI.out.1 HI.out.2.1 HI.out.2.2.1 HI.out.2.2.2 rfl (.slice a1 B.length cp1) (ints B) rfl (HO.out.kept ((Kept.refl (fun _ => False) wr).alloc (.cells #[.int .u8 (c : Int)] 5)) (fun _ _ => id)) (some ⟨wr.heap.size, 0, none⟩) 1 1 [(c : Int)] rfl (fun h => by cases h) (slAt_one wr _ 5) (by rw [ints_length]; omega) (by rw [ints_length]; simp [maxLen]; omega) ?_; intro v5 w5 ho5 hk5 hpr5; have HO5 := Lib.hid ho5; have HP5 := Lib.hid hpr5; clear ho5 hpr5))
     obtain ⟨q1, q2⟩ := app_own hkr ((Kept.refl (fun _ => False) wr).alloc (.cells #[.int .u8 (c : Int)] 5)) HF.out hk5 HP5.out
     obtain ⟨wo, hwo⟩ : ∃ wo, wo = wr := ⟨_, rfl⟩
     go_loopw [3, 6] (fun v m wi => v = v5 /\ m = .int .i64 (-1) /\ wi = w5) (fun _ m _ => 0)
     case atStart => exact ⟨rfl, rfl, rfl⟩
     case round =>
      obtain ⟨rfl, rfl, rfl⟩ := hrel
      go_wp2
      go_roundw
      case rel => exact ⟨k + 1, by omega, by go_num, by rw [HSN.out, ints_append]; exact HO5.out, q2, q1⟩
      case measure => simp [intOf]; omega
    by_cases z2 : c < 2048
    ·have g1 : decide ((65536 : Int) <= (c : Int)) = false := decide_eq_false (by omega)
     have g2 : decide ((2048 : Int) <= (c : Int)) = false := decide_eq_false (by omega)
     have g3 : decide ((128 : Int) <= (c : Int)) = true := decide_eq_true (by omega)
     obtain ⟨q, hq⟩ : ∃ q, c / 64 = q := ⟨_, rfl⟩
     have hqi : (c : Int) / 64 = (q : Int) := by omega
     have hql : q < 64 := by omega
     have hlead : bits BinOp.or IntKind.i32 192 (q : Int) = ((192 + q : Nat) : Int) := by
      have h := or_lead 3 q 6 (by omega) (by omega) (by omega)
      simpa using h
     obtain ⟨b0, hb0⟩ : ∃ b0, 192 + q = b0 := ⟨_, rfl⟩
     rw [hb0] at hlead
     have hw0 : IntKind.u8.wrap (b0 : Int) = (b0 : Int) := by rw [IntKind.wrap_u8]; omega
     have hE : encN c = [192 + c / 64, 128 + c % 64] := by unfold encN; rw [if_neg (by omega), if_pos (by omega)]
     rw [hE] at hsn
     have hB0 : [192 + c / 64, 128 + c % 64].take 1 = [b0] := by rw [<- hb0, <- hq]; rfl
     have HB0 := Lib.hid hB0
     clear hB0
     have o1 : bits BinOp.or IntKind.i32 0 16 = 16 := by decide
     have o2 : bits BinOp.or IntKind.i32 16 32 = 48 := by decide
     have o3 : bits BinOp.or IntKind.i32 48 192 = 240 := by decide
     have o4 : bits BinOp.or IntKind.i32 0 32 = 32 := by decide
     have o5 : bits BinOp.or IntKind.i32 32 192 = 224 := by decide
     have o6 : bits BinOp.or IntKind.i32 0 192 = 192 := by decide
     have HSN := Lib.hid hsn
     clear hsn hE hq hb0
     go_wp2_with (first
      | (go_at_call 107; refine (HIS.out _).mono ?_; rintro e w' ⟨rfl, rfl⟩)
      | (at_builtin; refine wpList_appInts rfl (.tmp 38) (.tmp 46) 22 rfl 5 .u8 i0 (.int .u8 0) 1 Tryz.underlying22 HI.out.1 HI.out.2.1 HI.out.2.2.1 HI.out.2.2.2 rfl (.slice a1 B.length cp1) (ints B) rfl (HO.out.kept ((Kept.refl (fun _ => False) wr).alloc (.cells #[.int .u8 (b0 : Int)] 5)) (fun _ _ => id)) (some ⟨wr.heap.size, 0, none⟩) 1 1 [(b0 : Int)] rfl (fun h => by cases h) (slAt_one wr _ 5) (by rw [ints_length]; omega) (by rw [ints_length]; simp [maxLen]; omega) ?_; intro v5 w5 ho5 hk5 hpr5; have HO5 := Lib.hid ho5; have HP5 := Lib.hid hpr5; clear ho5 hpr5))
     obtain ⟨q1, q2⟩ := app_own hkr ((Kept.refl (fun _ => False) wr).alloc (.cells #[.int .u8 (b0 : Int)] 5)) HF.out hk5 HP5.out
     have hst : Own .u8 5 w5 v5 (ints B ++ ints ([192 + c / 64, 128 + c % 64].take (0 + 1))) := by rw [show [192 + c / 64, 128 + c % 64].take (0 + 1) = [192 + c / 64, 128 + c % 64].take 1 from rfl, HB0.out]; exact HO5.out
     have HST := Lib.hid hst
     clear hlead hw0 hst
     go_loopw [3, 6] (fun v m wi => ∃ (j : Nat) (mi : Int), j <= 1 /\ mi = 0 - (j : Int) /\ m = .int .i64 mi /\ Own .u8 5 wi v (ints B ++ ints ([192 + c / 64, 128 + c % 64].take (j + 1))) /\ (∀ b, v.ownBlock = some b -> w.heap.size <= b) /\ Kept (fun _ => False) w wi) (fun _ m _ => (intOf m + 1).toNat)
     case atStart => exact ⟨0, 0, by omega, by omega, rfl, HST.out, q2, q1⟩
     case round =>
      obtain ⟨j, mi, hj, hmi, rfl, ho, hf, hki⟩ := hrel
      obtain ⟨a2, cp2, hv2, -⟩ := ho.shape
      have HO2 := Lib.hid ho
      have HF2 := Lib.hid hf
      clear ho hf
      rcases (show j = 0 \/ j = 1 by omega) with rfl | rfl
      ·obtain rfl : mi = 0 := by omega
       clear hmi
       rw [show (ints B ++ ints ([192 + c / 64, 128 + c % 64].take (0 + 1))).length = B.length + 1 by simp [ints]] at hv2
       subst hv2
       obtain ⟨p, hp⟩ : ∃ p, c = p := ⟨_, rfl⟩
       have ha63 := and63 c (by omega)
       obtain ⟨x, hx⟩ : ∃ x, c % 64 = x := ⟨_, rfl⟩
       rw [hx] at ha63
       have ho128 := or128 x (by omega)
       obtain ⟨y, hy⟩ : ∃ y, 128 + x = y := ⟨_, rfl⟩
       rw [hy] at ho128
       have hwy : IntKind.u8.wrap (y : Int) = (y : Int) := by rw [IntKind.wrap_u8]; omega
       have hE2 : [192 + c / 64, 128 + c % 64].take (0 + 1 + 1) = [192 + c / 64, 128 + c % 64].take (0 + 1) ++ [y] := by rw [<- hy, <- hx]; rfl
       have HE2 := Lib.hid hE2
       clear hE2 hx hy hp
       go_wp2_with (at_builtin; refine wpList_appInts rfl (.tmp 54) (.tmp 62) 22 rfl 5 .u8 i0 (.int .u8 0) 1 Tryz.underlying22 HI.out.1 HI.out.2.1 HI.out.2.2.1 HI.out.2.2.2 rfl (.slice a2 (B.length + 1) cp2) _ rfl (HO2.out.kept ((Kept.refl (fun _ => False) wr).alloc (.cells #[.int .u8 (y : Int)] 5)) (fun _ _ => id)) (some ⟨wr.heap.size, 0, none⟩) 1 1 [(y : Int)] rfl (fun h => by cases h) (slAt_one wr _ 5) (by simp [ints]; omega) (by simp [ints, maxLen]; omega) ?_; intro v6 w6 ho6 hk6 hpr6; have HO6 := Lib.hid ho6; have HP6 := Lib.hid hpr6; clear ho6 hpr6)
       obtain ⟨r1, r2⟩ := app_own hki ((Kept.refl (fun _ => False) wr).alloc (.cells #[.int .u8 (y : Int)] 5)) HF2.out hk6 HP6.out
       go_roundw
       case rel => exact ⟨1, -1, by omega, by omega, by first | rfl | go_num, HO6.out.retag (by rw [HE2.out, ints_append, <- List.append_assoc]; rfl), r2, r1⟩
       case measure => simp [intOf]
      ·obtain rfl : mi = -1 := by omega
       clear hmi
       rw [show (ints B ++ ints ([192 + c / 64, 128 + c % 64].take (1 + 1))).length = B.length + 2 by simp [ints]] at hv2
       subst hv2
       go_wp2
       go_roundw
       case rel => exact ⟨k + 1, by omega, by go_num, HO2.out.retag (by rw [HSN.out, ints_append]; rfl), HF2.out, hki⟩
       case measure => simp [intOf]; omega
    by_cases z3 : c < 65536
    ·have g1 : decide ((65536 : Int) <= (c : Int)) = false := decide_eq_false (by omega)
     have g2 : decide ((2048 : Int) <= (c : Int)) = true := decide_eq_true (by omega)
     have g3 : decide ((128 : Int) <= (c : Int)) = true := decide_eq_true (by omega)
     obtain ⟨q, hq⟩ : ∃ q, c / 4096 = q := ⟨_, rfl⟩
     have hqi : (c : Int) / 4096 = (q : Int) := by omega
     have hql : q < 32 := by omega
     have hlead : bits BinOp.or IntKind.i32 224 (q : Int) = ((224 + q : Nat) : Int) := by
      have h := or_lead 7 q 5 (by omega) (by omega) (by omega)
      simpa using h
     obtain ⟨b0, hb0⟩ : ∃ b0, 224 + q = b0 := ⟨_, rfl⟩
     rw [hb0] at hlead
     have hw0 : IntKind.u8.wrap (b0 : Int) = (b0 : Int) := by rw [IntKind.wrap_u8]; omega
     have hE : encN c = [224 + c / 4096, 128 + c / 64 % 64, 128 + c % 64] := by unfold encN; rw [if_neg (by omega), if_neg (by omega), if_pos (by omega)]
     rw [hE] at hsn
     have hB0 : [224 + c / 4096, 128 + c / 64 % 64, 128 + c % 64].take 1 = [b0] := by rw [<- hb0, <- hq]; rfl
     have HB0 := Lib.hid hB0
     clear hB0
     have o1 : bits BinOp.or IntKind.i32 0 16 = 16 := by decide
     have o2 : bits BinOp.or IntKind.i32 16 32 = 48 := by decide
     have o3 : bits BinOp.or IntKind.i32 48 192 = 240 := by decide
     have o4 : bits BinOp.or IntKind.i32 0 32 = 32 := by decide
     have o5 : bits BinOp.or IntKind.i32 32 192 = 224 := by decide
     have o6 : bits BinOp.or IntKind.i32 0 192 = 192 := by decide
     have HSN := Lib.hid hsn
     clear hsn hE hq hb0
     go_wp2_with (first
      | (go_at_call 107; refine (HIS.out _).mono ?_; rintro e w' ⟨rfl, rfl⟩)
      | (at_builtin; refine wpList_appInts rfl (.tmp 38) (.tmp 46) 22 rfl 5 .u8 i0 (.int .u8 0) 1 Tryz.underlying22 HI.out.1 HI.out.2.1 HI.out.2.2.1 HI.out.2.2.2 rfl (.slice a1 B.length cp1) (ints B) rfl (HO.out.kept ((Kept.refl (fun _ => False) wr).alloc (.cells #[.int .u8 (b0 : Int)] 5)) (fun _ _ => id)) (some ⟨wr.heap.size, 0, none⟩) 1 1 [(b0 : Int)] rfl (fun h => by cases h) (slAt_one wr _ 5) (by rw [ints_length]; omega) (by rw [ints_length]; simp [maxLen]; omega) ?_; intro v5 w5 ho5 hk5 hpr5; have HO5 := Lib.hid ho5; have HP5 := Lib.hid hpr5; clear ho5 hpr5))
     obtain ⟨q1, q2⟩ := app_own hkr ((Kept.refl (fun _ => False) wr).alloc (.cells #[.int .u8 (b0 : Int)] 5)) HF.out hk5 HP5.out
     have hst : Own .u8 5 w5 v5 (ints B ++ ints ([224 + c / 4096, 128 + c / 64 % 64, 128 + c % 64].take (0 + 1))) := by rw [show [224 + c / 4096, 128 + c / 64 % 64, 128 + c % 64].take (0 + 1) = [224 + c / 4096, 128 + c / 64 % 64, 128 + c % 64].take 1 from rfl, HB0.out]; exact HO5.out
     have HST := Lib.hid hst
     clear hlead hw0 hst
     go_loopw [3, 6] (fun v m wi => ∃ (j : Nat) (mi : Int), j <= 2 /\ mi = 1 - (j : Int) /\ m = .int .i64 mi /\ Own .u8 5 wi v (ints B ++ ints ([224 + c / 4096, 128 + c / 64 % 64, 128 + c % 64].take (j + 1))) /\ (∀ b, v.ownBlock = some b -> w.heap.size <= b) /\ Kept (fun _ => False) w wi) (fun _ m _ => (intOf m + 1).toNat)
     case atStart => exact ⟨0, 1, by omega, by omega, rfl, HST.out, q2, q1⟩
     case round =>
      obtain ⟨j, mi, hj, hmi, rfl, ho, hf, hki⟩ := hrel
      obtain ⟨a2, cp2, hv2, -⟩ := ho.shape
      have HO2 := Lib.hid ho
      have HF2 := Lib.hid hf
      clear ho hf
      rcases (show j = 0 \/ j = 1 \/ j = 2 by omega) with rfl | rfl | rfl
      ·obtain rfl : mi = 1 := by omega
       clear hmi
       rw [show (ints B ++ ints ([224 + c / 4096, 128 + c / 64 % 64, 128 + c % 64].take (0 + 1))).length = B.length + 1 by simp [ints]] at hv2
       subst hv2
       obtain ⟨p, hp⟩ : ∃ p, c / 64 = p := ⟨_, rfl⟩
       have hpi : (c : Int) / 64 = (p : Int) := by omega
       have ha63 := and63 p (by omega)
       obtain ⟨x, hx⟩ : ∃ x, p % 64 = x := ⟨_, rfl⟩
       rw [hx] at ha63
       have ho128 := or128 x (by omega)
       obtain ⟨y, hy⟩ : ∃ y, 128 + x = y := ⟨_, rfl⟩
       rw [hy] at ho128
       have hwy : IntKind.u8.wrap (y : Int) = (y : Int) := by rw [IntKind.wrap_u8]; omega
       have hE2 : [224 + c / 4096, 128 + c / 64 % 64, 128 + c % 64].take (0 + 1 + 1) = [224 + c / 4096, 128 + c / 64 % 64, 128 + c % 64].take (0 + 1) ++ [y] := by rw [<- hy, <- hx, <- hp]; rfl
       have HE2 := Lib.hid hE2
       clear hE2 hx hy hp
       go_wp2_with (at_builtin; refine wpList_appInts rfl (.tmp 54) (.tmp 62) 22 rfl 5 .u8 i0 (.int .u8 0) 1 Tryz.underlying22 HI.out.1 HI.out.2.1 HI.out.2.2.1 HI.out.2.2.2 rfl (.slice a2 (B.length + 1) cp2) _ rfl (HO2.out.kept ((Kept.refl (fun _ => False) wr).alloc (.cells #[.int .u8 (y : Int)] 5)) (fun _ _ => id)) (some ⟨wr.heap.size, 0, none⟩) 1 1 [(y : Int)] rfl (fun h => by cases h) (slAt_one wr _ 5) (by simp [ints]; omega) (by simp [ints, maxLen]; omega) ?_; intro v6 w6 ho6 hk6 hpr6; have HO6 := Lib.hid ho6; have HP6 := Lib.hid hpr6; clear ho6 hpr6)
       obtain ⟨r1, r2⟩ := app_own hki ((Kept.refl (fun _ => False) wr).alloc (.cells #[.int .u8 (y : Int)] 5)) HF2.out hk6 HP6.out
       go_roundw
       case rel => exact ⟨1, 0, by omega, by omega, by first | rfl | go_num, HO6.out.retag (by rw [HE2.out, ints_append, <- List.append_assoc]; rfl), r2, r1⟩
       case measure => simp [intOf]
      ·obtain rfl : mi = 0 := by omega
       clear hmi
       rw [show (ints B ++ ints ([224 + c / 4096, 128 + c / 64 % 64, 128 + c % 64].take (1 + 1))).length = B.length + 2 by simp [ints]] at hv2
       subst hv2
       obtain ⟨p, hp⟩ : ∃ p, c = p := ⟨_, rfl⟩
       have ha63 := and63 c (by omega)
       obtain ⟨x, hx⟩ : ∃ x, c % 64 = x := ⟨_, rfl⟩
       rw [hx] at ha63
       have ho128 := or128 x (by omega)
       obtain ⟨y, hy⟩ : ∃ y, 128 + x = y := ⟨_, rfl⟩
       rw [hy] at ho128
       have hwy : IntKind.u8.wrap (y : Int) = (y : Int) := by rw [IntKind.wrap_u8]; omega
       have hE2 : [224 + c / 4096, 128 + c / 64 % 64, 128 + c % 64].take (1 + 1 + 1) = [224 + c / 4096, 128 + c / 64 % 64, 128 + c % 64].take (1 + 1) ++ [y] := by rw [<- hy, <- hx]; rfl
       have HE2 := Lib.hid hE2
       clear hE2 hx hy hp
       go_wp2_with (at_builtin; refine wpList_appInts rfl (.tmp 54) (.tmp 62) 22 rfl 5 .u8 i0 (.int .u8 0) 1 Tryz.underlying22 HI.out.1 HI.out.2.1 HI.out.2.2.1 HI.out.2.2.2 rfl (.slice a2 (B.length + 2) cp2) _ rfl (HO2.out.kept ((Kept.refl (fun _ => False) wr).alloc (.cells #[.int .u8 (y : Int)] 5)) (fun _ _ => id)) (some ⟨wr.heap.size, 0, none⟩) 1 1 [(y : Int)] rfl (fun h => by cases h) (slAt_one wr _ 5) (by simp [ints]; omega) (by simp [ints, maxLen]; omega) ?_; intro v6 w6 ho6 hk6 hpr6; have HO6 := Lib.hid ho6; have HP6 := Lib.hid hpr6; clear ho6 hpr6)
       obtain ⟨r1, r2⟩ := app_own hki ((Kept.refl (fun _ => False) wr).alloc (.cells #[.int .u8 (y : Int)] 5)) HF2.out hk6 HP6.out
       go_roundw
       case rel => exact ⟨2, -1, by omega, by omega, by first | rfl | go_num, HO6.out.retag (by rw [HE2.out, ints_append, <- List.append_assoc]; rfl), r2, r1⟩
       case measure => simp [intOf]
      ·obtain rfl : mi = -1 := by omega
       clear hmi
       rw [show (ints B ++ ints ([224 + c / 4096, 128 + c / 64 % 64, 128 + c % 64].take (2 + 1))).length = B.length + 3 by simp [ints]] at hv2
       subst hv2
       go_wp2
       go_roundw
       case rel => exact ⟨k + 1, by omega, by go_num, HO2.out.retag (by rw [HSN.out, ints_append]; rfl), HF2.out, hki⟩
       case measure => simp [intOf]; omega
    ·have g1 : decide ((65536 : Int) <= (c : Int)) = true := decide_eq_true (by omega)
     have g2 : decide ((2048 : Int) <= (c : Int)) = true := decide_eq_true (by omega)
     have g3 : decide ((128 : Int) <= (c : Int)) = true := decide_eq_true (by omega)
     obtain ⟨q, hq⟩ : ∃ q, c / 262144 = q := ⟨_, rfl⟩
     have hqi : (c : Int) / 262144 = (q : Int) := by omega
     have hql : q < 16 := by omega
     have hlead : bits BinOp.or IntKind.i32 240 (q : Int) = ((240 + q : Nat) : Int) := by
      have h := or_lead 15 q 4 (by omega) (by omega) (by omega)
      simpa using h
     obtain ⟨b0, hb0⟩ : ∃ b0, 240 + q = b0 := ⟨_, rfl⟩
     rw [hb0] at hlead
     have hw0 : IntKind.u8.wrap (b0 : Int) = (b0 : Int) := by rw [IntKind.wrap_u8]; omega
     have hE : encN c = [240 + c / 262144, 128 + c / 4096 % 64, 128 + c / 64 % 64, 128 + c % 64] := by unfold encN; rw [if_neg (by omega), if_neg (by omega), if_neg (by omega)]
     rw [hE] at hsn
     have hB0 : [240 + c / 262144, 128 + c / 4096 % 64, 128 + c / 64 % 64, 128 + c % 64].take 1 = [b0] := by rw [<- hb0, <- hq]; rfl
     have HB0 := Lib.hid hB0
     clear hB0
     have o1 : bits BinOp.or IntKind.i32 0 16 = 16 := by decide
     have o2 : bits BinOp.or IntKind.i32 16 32 = 48 := by decide
     have o3 : bits BinOp.or IntKind.i32 48 192 = 240 := by decide
     have o4 : bits BinOp.or IntKind.i32 0 32 = 32 := by decide
     have o5 : bits BinOp.or IntKind.i32 32 192 = 224 := by decide
     have o6 : bits BinOp.or IntKind.i32 0 192 = 192 := by decide
     have HSN := Lib.hid hsn
     clear hsn hE hq hb0
     go_wp2_with (first
      | (go_at_call 107; refine (HIS.out _).mono ?_; rintro e w' ⟨rfl, rfl⟩)
      | (at_builtin; refine wpList_appInts rfl (.tmp 38) (.tmp 46) 22 rfl 5 .u8 i0 (.int .u8 0) 1 Tryz.underlying22 HI.out.1 HI.out.2.1 HI.out.2.2.1 HI.out.2.2.2 rfl (.slice a1 B.length cp1) (ints B) rfl (HO.out.kept ((Kept.refl (fun _ => False) wr).alloc (.cells #[.int .u8 (b0 : Int)] 5)) (fun _ _ => id)) (some ⟨wr.heap.size, 0, none⟩) 1 1 [(b0 : Int)] rfl (fun h => by cases h) (slAt_one wr _ 5) (by rw [ints_length]; omega) (by rw [ints_length]; simp [maxLen]; omega) ?_; intro v5 w5 ho5 hk5 hpr5; have HO5 := Lib.hid ho5; have HP5 := Lib.hid hpr5; clear ho5 hpr5))
     obtain ⟨q1, q2⟩ := app_own hkr ((Kept.refl (fun _ => False) wr).alloc (.cells #[.int .u8 (b0 : Int)] 5)) HF.out hk5 HP5.out
     have hst : Own .u8 5 w5 v5 (ints B ++ ints ([240 + c / 262144, 128 + c / 4096 % 64, 128 + c / 64 % 64, 128 + c % 64].take (0 + 1))) := by rw [show [240 + c / 262144, 128 + c / 4096 % 64, 128 + c / 64 % 64, 128 + c % 64].take (0 + 1) = [240 + c / 262144, 128 + c / 4096 % 64, 128 + c / 64 % 64, 128 + c % 64].take 1 from rfl, HB0.out]; exact HO5.out
     have HST := Lib.hid hst
     clear hlead hw0 hst
     go_loopw [3, 6] (fun v m wi => ∃ (j : Nat) (mi : Int), j <= 3 /\ mi = 2 - (j : Int) /\ m = .int .i64 mi /\ Own .u8 5 wi v (ints B ++ ints ([240 + c / 262144, 128 + c / 4096 % 64, 128 + c / 64 % 64, 128 + c % 64].take (j + 1))) /\ (∀ b, v.ownBlock = some b -> w.heap.size <= b) /\ Kept (fun _ => False) w wi) (fun _ m _ => (intOf m + 1).toNat)
     case atStart => exact ⟨0, 2, by omega, by omega, rfl, HST.out, q2, q1⟩
     case round =>
      obtain ⟨j, mi, hj, hmi, rfl, ho, hf, hki⟩ := hrel
      obtain ⟨a2, cp2, hv2, -⟩ := ho.shape
      have HO2 := Lib.hid ho
      have HF2 := Lib.hid hf
      clear ho hf
      rcases (show j = 0 \/ j = 1 \/ j = 2 \/ j = 3 by omega) with rfl | rfl | rfl | rfl
      ·obtain rfl : mi = 2 := by omega
       clear hmi
       rw [show (ints B ++ ints ([240 + c / 262144, 128 + c / 4096 % 64, 128 + c / 64 % 64, 128 + c % 64].take (0 + 1))).length = B.length + 1 by simp [ints]] at hv2
       subst hv2
       obtain ⟨p, hp⟩ : ∃ p, c / 4096 = p := ⟨_, rfl⟩
       have hpi : (c : Int) / 4096 = (p : Int) := by omega
       have ha63 := and63 p (by omega)
       obtain ⟨x, hx⟩ : ∃ x, p % 64 = x := ⟨_, rfl⟩
       rw [hx] at ha63
       have ho128 := or128 x (by omega)
       obtain ⟨y, hy⟩ : ∃ y, 128 + x = y := ⟨_, rfl⟩
       rw [hy] at ho128
       have hwy : IntKind.u8.wrap (y : Int) = (y : Int) := by rw [IntKind.wrap_u8]; omega
       have hE2 : [240 + c / 262144, 128 + c / 4096 % 64, 128 + c / 64 % 64, 128 + c % 64].take (0 + 1 + 1) = [240 + c / 262144, 128 + c / 4096 % 64, 128 + c / 64 % 64, 128 + c % 64].take (0 + 1) ++ [y] := by rw [<- hy, <- hx, <- hp]; rfl
       have HE2 := Lib.hid hE2
       clear hE2 hx hy hp
       go_wp2_with (at_builtin; refine wpList_appInts rfl (.tmp 54) (.tmp 62) 22 rfl 5 .u8 i0 (.int .u8 0) 1 Tryz.underlying22 HI.out.1 HI.out.2.1 HI.out.2.2.1 HI.out.2.2.2 rfl (.slice a2 (B.length + 1) cp2) _ rfl (HO2.out.kept ((Kept.refl (fun _ => False) wr).alloc (.cells #[.int .u8 (y : Int)] 5)) (fun _ _ => id)) (some ⟨wr.heap.size, 0, none⟩) 1 1 [(y : Int)] rfl (fun h => by cases h) (slAt_one wr _ 5) (by simp [ints]; omega) (by simp [ints, maxLen]; omega) ?_; intro v6 w6 ho6 hk6 hpr6; have HO6 := Lib.hid ho6; have HP6 := Lib.hid hpr6; clear ho6 hpr6)
       obtain ⟨r1, r2⟩ := app_own hki ((Kept.refl (fun _ => False) wr).alloc (.cells #[.int .u8 (y : Int)] 5)) HF2.out hk6 HP6.out
       go_roundw
       case rel => exact ⟨1, 1, by omega, by omega, by first | rfl | go_num, HO6.out.retag (by rw [HE2.out, ints_append, <- List.append_assoc]; rfl), r2, r1⟩
       case measure => simp [intOf]
      ·obtain rfl : mi = 1 := by omega
       clear hmi
       rw [show (ints B ++ ints ([240 + c / 262144, 128 + c / 4096 % 64, 128 + c / 64 % 64, 128 + c % 64].take (1 + 1))).length = B.length + 2 by simp [ints]] at hv2
       subst hv2
       obtain ⟨p, hp⟩ : ∃ p, c / 64 = p := ⟨_, rfl⟩
       have hpi : (c : Int) / 64 = (p : Int) := by omega
       have ha63 := and63 p (by omega)
       obtain ⟨x, hx⟩ : ∃ x, p % 64 = x := ⟨_, rfl⟩
       rw [hx] at ha63
       have ho128 := or128 x (by omega)
       obtain ⟨y, hy⟩ : ∃ y, 128 + x = y := ⟨_, rfl⟩
       rw [hy] at ho128
       have hwy : IntKind.u8.wrap (y : Int) = (y : Int) := by rw [IntKind.wrap_u8]; omega
       have hE2 : [240 + c / 262144, 128 + c / 4096 % 64, 128 + c / 64 % 64, 128 + c % 64].take (1 + 1 + 1) = [240 + c / 262144, 128 + c / 4096 % 64, 128 + c / 64 % 64, 128 + c % 64].take (1 + 1) ++ [y] := by rw [<- hy, <- hx, <- hp]; rfl
       have HE2 := Lib.hid hE2
       clear hE2 hx hy hp
       go_wp2_with (at_builtin; refine wpList_appInts rfl (.tmp 54) (.tmp 62) 22 rfl 5 .u8 i0 (.int .u8 0) 1 Tryz.underlying22 HI.out.1 HI.out.2.1 HI.out.2.2.1 HI.out.2.2.2 rfl (.slice a2 (B.length + 2) cp2) _ rfl (HO2.out.kept ((Kept.refl (fun _ => False) wr).alloc (.cells #[.int .u8 (y : Int)] 5)) (fun _ _ => id)) (some ⟨wr.heap.size, 0, none⟩) 1 1 [(y : Int)] rfl (fun h => by cases h) (slAt_one wr _ 5) (by simp [ints]; omega) (by simp [ints, maxLen]; omega) ?_; intro v6 w6 ho6 hk6 hpr6; have HO6 := Lib.hid ho6; have HP6 := Lib.hid hpr6; clear ho6 hpr6)
       obtain ⟨r1, r2⟩ := app_own hki ((Kept.refl (fun _ => False) wr).alloc (.cells #[.int .u8 (y : Int)] 5)) HF2.out hk6 HP6.out
       go_roundw
       case rel => exact ⟨2, 0, by omega, by omega, by first | rfl | go_num, HO6.out.retag (by rw [HE2.out, ints_append, <- List.append_assoc]; rfl), r2, r1⟩
       case measure => simp [intOf]
      ·obtain rfl : mi = 0 := by omega
       clear hmi
       rw [show (ints B ++ ints ([240 + c / 262144, 128 + c / 4096 % 64, 128 + c / 64 % 64, 128 + c % 64].take (2 + 1))).length = B.length + 3 by simp [ints]] at hv2
       subst hv2
       obtain ⟨p, hp⟩ : ∃ p, c = p := ⟨_, rfl⟩
       have ha63 := and63 c (by omega)
       obtain ⟨x, hx⟩ : ∃ x, c % 64 = x := ⟨_, rfl⟩
       rw [hx] at ha63
       have ho128 := or128 x (by omega)
       obtain ⟨y, hy⟩ : ∃ y, 128 + x = y := ⟨_, rfl⟩
       rw [hy] at ho128
       have hwy : IntKind.u8.wrap (y : Int) = (y : Int) := by rw [IntKind.wrap_u8]; omega
       have hE2 : [240 + c / 262144, 128 + c / 4096 % 64, 128 + c / 64 % 64, 128 + c % 64].take (2 + 1 + 1) = [240 + c / 262144, 128 + c / 4096 % 64, 128 + c / 64 % 64, 128 + c % 64].take (2 + 1) ++ [y] := by rw [<- hy, <- hx]; rfl
       have HE2 := Lib.hid hE2
       clear hE2 hx hy hp
       go_wp2_with (at_builtin; refine wpList_appInts rfl (.tmp 54) (.tmp 62) 22 rfl 5 .u8 i0 (.int .u8 0) 1 Tryz.underlying22 HI.out.1 HI.out.2.1 HI.out.2.2.1 HI.out.2.2.2 rfl (.slice a2 (B.length + 3) cp2) _ rfl (HO2.out.kept ((Kept.refl (fun _ => False) wr).alloc (.cells #[.int .u8 (y : Int)] 5)) (fun _ _ => id)) (some ⟨wr.heap.size, 0, none⟩) 1 1 [(y : Int)] rfl (fun h => by cases h) (slAt_one wr _ 5) (by simp [ints]; omega) (by simp [ints, maxLen]; omega) ?_; intro v6 w6 ho6 hk6 hpr6; have HO6 := Lib.hid ho6; have HP6 := Lib.hid hpr6; clear ho6 hpr6)
       obtain ⟨r1, r2⟩ := app_own hki ((Kept.refl (fun _ => False) wr).alloc (.cells #[.int .u8 (y : Int)] 5)) HF2.out hk6 HP6.out
       go_roundw
       case rel => exact ⟨3, -1, by omega, by omega, by first | rfl | go_num, HO6.out.retag (by rw [HE2.out, ints_append, <- List.append_assoc]; rfl), r2, r1⟩
       case measure => simp [intOf]
      ·obtain rfl : mi = -1 := by omega
       clear hmi
       rw [show (ints B ++ ints ([240 + c / 262144, 128 + c / 4096 % 64, 128 + c / 64 % 64, 128 + c % 64].take (3 + 1))).length = B.length + 4 by simp [ints]] at hv2
       subst hv2
       go_wp2
       go_roundw
       case rel => exact ⟨k + 1, by omega, by go_num, HO2.out.retag (by rw [HSN.out, ints_append]; rfl), HF2.out, hki⟩
       case measure => simp [intOf]; omega
  ·obtain rfl : k = len := by omega
   have htk : l.take k = l := List.take_of_length_le (by omega)
   rw [htk] at HO HF ⊢
   go_wp2
   go_ret
   exact ⟨_, rfl, HO.out, hkr, HF.out⟩
end Go.Proofs.YtmplpcmcbliadaaGreatDoor
