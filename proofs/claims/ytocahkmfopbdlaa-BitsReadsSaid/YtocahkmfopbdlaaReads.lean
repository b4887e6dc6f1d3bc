/- Any asks of both readers: the same answers. -/
import Derived.Test.YtocahkmfopbdlaaRany
import Derived.Test.YtocahkmfopbdlaaRrefZero
import Derived.Test.YtocahkmfopbdlaaOpairs
import Derived.Test.YtocahkmfopbdlaaNumbers
import Derived.Test.YtocahkmfopbdlaaBytes
namespace Go.Proofs.Ytocahkmfopbdlaa
open Go.RowKit Pl
set_option linter.unusedVariables false
theorem refBytes_any (q : Nat) (a : Option Addr) (len cap t : Nat) (n : Int) (xs : List Int) (w : World) (hsp : ∀ x, a = some x → cap = 0 ∨ x.spot = none) (h : RfAt w q a len cap xs t) :
    Calls Try.prog 35 #[.pointer (some ⟨q, 0, none⟩), .int .i64 n] w fun e w' => ∃ v, e = .returned (.tuple #[v, .bool (okY xs.length t n)]) ∧ Own .u8 5 w' v (resY xs t n) ∧ RfAt w' q a len cap xs (nextY xs.length t n) ∧ Kept (· = q) w w' ∧ ∀ b, v.ownBlock = some b → w.heap.size ≤ b := by
  have hl : t ≤ 8 * len := h.2.2.2.2.2.1
  have hx : xs.length = len := h.2.1.1
  rw [hx]
  by_cases hc : okY len t n = true
  · have hc' := of_decide_eq_true hc
    obtain ⟨k, rfl⟩ : ∃ k : Nat, n = k := ⟨n.toNat, by omega⟩
    simp only [resY, nextY, hx, hc, if_true, Int.toNat_natCast]
    by_cases hb : 0 < len
    · obtain ⟨b, off, rfl, -⟩ := h.2.1.2.resolve_left (by omega)
      exact refBytes_some q b off len cap t (t / 8) k xs w h (by omega) (by omega)
    · have hl0 : len = 0 := by omega
      subst hl0
      have hx0 : xs = [] := List.eq_nil_of_length_eq_zero hx
      subst hx0
      have hk : k = 0 := by omega
      have ht : t = 0 := by omega
      subst hk ht
      cases a with
      | none =>
        obtain ⟨-, rfl⟩ := h.2.2.1 rfl
        exact refBytes_nil q w h
      | some x => exact refBytes_zero q x cap w h.2.2.2.2.2.2.2.2 (hsp x rfl) h
  · have hc' : ¬ _ := fun hh => hc (decide_eq_true hh)
    have hf := Bool.eq_false_iff.2 hc
    simp only [resY, nextY, hx, hf, Bool.false_eq_true, if_false]
    exact (refBytes_no q a len cap t n xs w h (by omega)).mono fun e w' ⟨he, hm⟩ => ⟨_, he, own_nil_none _, (drewRf h hm).1, (drewRf h hm).2, fun b hb => by cases hb⟩
set_option maxRecDepth 100000 in
set_option maxHeartbeats 8000000 in
theorem reads_go (cap llen lcap : Nat) (a la : Option Addr) (xs : List Int) (K N : Nat → Int) (w : World) (hs : SlAt .u8 w a xs.length xs) (hnl : a = none → xs.length = 0 ∧ cap = 0) (hsp : ∀ x, a = some x → cap = 0 ∨ x.spot = none) (hb : Bytes xs)
    (hlt : ∀ b off, 0 < xs.length → a = some ⟨b, off, none⟩ → b < w.heap.size) (hl : xs.length ≤ 400) (hcl : xs.length ≤ cap) (hcm : cap ≤ 9223372036854775807) (hp : IsPairs w la llen K N) (hll : llen ≤ 400) :
    Calls Try.prog 7 #[.slice a xs.length cap, .slice la llen lcap] w fun e w' => e = .returned (.bool true) ∧ Kept (fun _ => False) w w' := by
  have g1 : decide (400 < (xs.length : Int)) = false := by simp; omega
  have g2 : decide (400 < (llen : Int)) = false := by simp; omega
  have HS := Lib.hid hs
  have HP := Lib.hid hp
  have HSP := Lib.hid hsp
  clear hs hp hsp
  go_enter Try.func7, Try.ntmps7
  go_wp2_with fail
  refine (known_any _).mono ?_; rintro e w0 ⟨rfl, hk0⟩
  have HS := Lib.hid (HS.out.kept hk0 (fun _ _ _ _ => id))
  have hz0 := hk0.size
  go_wp2_with fail
  refine (newReader _ _ _ xs _ HS.out hnl (by omega) hb).mono ?_
  rintro e w1 ⟨p, o, rfl, hr, hp0, ho, hk1⟩
  have hpl : p < w1.heap.size := by obtain ⟨v, h1, -⟩ := hr; exact lt_of_blk h1
  have hol : ∀ b, o = some b → b < w1.heap.size := by obtain ⟨v, h1, h2, h3, -⟩ := hr; intro b hb; exact (World.ownsRow.lt h2 b (h3.trans hb)).2
  have hkw1 := hk0.then hk1
  have hsz1 := hkw1.size
  have hsl1 := HS.out.kept hk1 (fun _ _ _ _ => id)
  have hr2 : RdAt (w1.alloc (.cells #[.slice a xs.length cap, .int .i64 (0 : Nat)] 54)) p o xs 0 := hr.kept ((Kept.refl (fun _ => False) w1).alloc _) id (fun _ _ => id)
  have hf2 : RfAt (w1.alloc (.cells #[.slice a xs.length cap, .int .i64 (0 : Nat)] 54)) w1.heap.size a xs.length cap xs 0 :=
    ⟨blk_new _ _, hsl1.kept ((Kept.refl (fun _ => False) w1).alloc _) (fun _ _ _ _ => id), hnl, (fun b off h0 he hh => by have := hlt b off h0 he; omega), hb, by omega, hl, hcl, hcm⟩
  have hkw2 := hkw1.alloc (.cells #[.slice a xs.length cap, .int .i64 (0 : Nat)] 54)
  have keepF : ∀ wa wb t, Kept (· = p) wa wb → RfAt wa w1.heap.size a xs.length cap xs t → RfAt wb w1.heap.size a xs.length cap xs t := fun wa wb t hk h =>
    h.kept hk (fun hh => by have h' : w1.heap.size = p := hh; omega) (fun b off h0 he hh => by have := hlt b off h0 he; have h' : b = p := hh; omega)
  have keepR : ∀ wa wb t, Kept (· = w1.heap.size) wa wb → RdAt wa p o xs t → RdAt wb p o xs t := fun wa wb t hk h =>
    h.kept hk (fun hh => by have h' : p = w1.heap.size := hh; omega) (fun b he hh => by have := hol b he; have h' : b = w1.heap.size := hh; omega)
  have keepP : ∀ wa wb, Kept (fun _ => False) w wa → Kept (· = p) wa wb → Kept (fun _ => False) w wb := fun wa wb h hk => h.trans (hk.mono (fun i _ h => Or.inr (by have : i = p := h; omega)))
  have keepQ : ∀ wa wb, Kept (fun _ => False) w wa → Kept (· = w1.heap.size) wa wb → Kept (fun _ => False) w wb := fun wa wb h hk => h.trans (hk.mono (fun i _ h => Or.inr (by have : i = w1.heap.size := h; omega)))
  have HR2 := Lib.hid hr2
  have HF2 := Lib.hid hf2
  have KF := Lib.hid keepF
  have KR := Lib.hid keepR
  have KP := Lib.hid keepP
  have KQ := Lib.hid keepQ
  clear hr hr2 hf2 keepF keepR keepP keepQ hk1 hsl1 hkw1
  go_wp2_with fail
  go_loopw [7] (fun i wr => ∃ k t : Nat, k ≤ llen ∧ i = .int .i64 k ∧ RdAt wr p o xs t ∧ RfAt wr w1.heap.size a xs.length cap xs t ∧ Kept (fun _ => False) w wr) (fun i _ => llen - (intOf i).toNat)
  case atStart => exact ⟨0, 0, by omega, rfl, HR2.out, HF2.out, hkw2⟩
  case round =>
    obtain ⟨k, t, hk, rfl, hr, hf, hkw⟩ := hrel
    have HR := Lib.hid hr
    have HF := Lib.hid hf
    by_cases hkl : k < llen
    · obtain ⟨lb, loff, rfl, hlb, hc⟩ := HP.out.resolve_left (by omega)
      obtain ⟨cK, cN, wK, wN⟩ := hc k hkl
      have cK := hkw.cell cK id
      have cN := hkw.cell cN id
      obtain ⟨kk, hkk⟩ : ∃ z, K k = z := ⟨_, rfl⟩
      obtain ⟨n, hnn⟩ : ∃ z, N k = z := ⟨_, rfl⟩
      rw [hkk] at cK
      rw [hnn, ← Nat.add_assoc] at cN
      clear hr hf hc hkk hnn wK wN
      by_cases h1 : kk = 1
      · subst h1
        go_wp2_with fail
        refine (rbits_any p o xs t n _ HR.out).mono ?_
        rintro e w3 ⟨rfl, hr3, hk3⟩
        have HR3 := Lib.hid hr3
        have HF3 := Lib.hid (KF.out _ _ _ hk3 HF.out)
        have hkw3 := KP.out _ _ hkw hk3
        clear hr3 hk3
        go_wp2_with fail
        refine (refBits_any w1.heap.size a xs.length cap t n xs _ HF3.out).mono ?_
        rintro e w4 ⟨rfl, hf4, hk4⟩
        have HF4 := Lib.hid hf4
        have HR4 := Lib.hid (KR.out _ _ _ hk4 HR3.out)
        have hkw4 := KQ.out _ _ hkw3 hk4
        clear hf4 hk4
        obtain ⟨t1, ht1⟩ : ∃ z, nextB xs.length t n = z := ⟨_, rfl⟩
        rw [ht1] at HR4 HF4
        clear ht1
        obtain ⟨⟨d0, -⟩, d1, -⟩ := blk2 HF4.out.1
        go_wp2
        go_quiet ((first
          | (go_at_call 36; exact Calls.quiet_of_same ((rat_any p o xs t1 _ (by exact HR4.out)).mono fun _ _ h => ⟨h.1, h.2.symm⟩))
          | (go_at_call 16; exact Calls.quiet_of (left_any p o xs t1 _ (by exact HR4.out)))
          | (go_at_call 37; exact Calls.quiet_of (refLeft_any w1.heap.size a xs.length cap t1 xs _ (by exact HF4.out)))))
        go_wp2
        go_roundw
        case rel => exact ⟨k + 1, t1, by omega, by go_num, by exact HR4.out, by exact HF4.out, by exact hkw4.drewN _⟩
        case measure => simp [intOf]; omega
      by_cases h2 : kk = 2
      · subst h2
        go_wp2_with fail
        refine (peek_any p o xs t n _ HR.out).mono ?_
        rintro e w3 ⟨rfl, hr3, hk3⟩
        have HR3 := Lib.hid hr3
        have HF3 := Lib.hid (KF.out _ _ _ hk3 HF.out)
        have hkw3 := KP.out _ _ hkw hk3
        clear hr3 hk3
        go_wp2_with fail
        refine (refPeek_any w1.heap.size a xs.length cap t n xs _ HF3.out).mono ?_
        rintro e w4 ⟨rfl, hf4, hk4⟩
        have HF4 := Lib.hid hf4
        have HR4 := Lib.hid (KR.out _ _ _ hk4 HR3.out)
        have hkw4 := KQ.out _ _ hkw3 hk4
        clear hf4 hk4
        obtain ⟨⟨d0, -⟩, d1, -⟩ := blk2 HF4.out.1
        go_wp2
        go_quiet ((first
          | (go_at_call 36; exact Calls.quiet_of_same ((rat_any p o xs t _ (by exact HR4.out)).mono fun _ _ h => ⟨h.1, h.2.symm⟩))
          | (go_at_call 16; exact Calls.quiet_of (left_any p o xs t _ (by exact HR4.out)))
          | (go_at_call 37; exact Calls.quiet_of (refLeft_any w1.heap.size a xs.length cap t xs _ (by exact HF4.out)))))
        go_wp2
        go_roundw
        case rel => exact ⟨k + 1, t, by omega, by go_num, by exact HR4.out, by exact HF4.out, by exact hkw4.drewN _⟩
        case measure => simp [intOf]; omega
      by_cases h3 : kk = 3
      · subst h3
        go_wp2_with fail
        refine (ralign_any p o xs t _ HR.out).mono ?_
        rintro e w3 ⟨rfl, hr3, hk3⟩
        have HR3 := Lib.hid hr3
        have HF3 := Lib.hid (KF.out _ _ _ hk3 HF.out)
        have hkw3 := KP.out _ _ hkw hk3
        clear hr3 hk3
        go_wp2_with fail
        refine (refAlign_any w1.heap.size a xs.length cap t xs _ HF3.out).mono ?_
        rintro e w4 ⟨rfl, hf4, hk4⟩
        have HF4 := Lib.hid hf4
        have HR4 := Lib.hid (KR.out _ _ _ hk4 HR3.out)
        have hkw4 := KQ.out _ _ hkw3 hk4
        clear hf4 hk4
        obtain ⟨t1, ht1⟩ : ∃ z, t + (8 - t % 8) % 8 = z := ⟨_, rfl⟩
        rw [ht1] at HR4 HF4
        clear ht1
        obtain ⟨⟨d0, -⟩, d1, -⟩ := blk2 HF4.out.1
        go_wp2
        go_quiet ((first
          | (go_at_call 36; exact Calls.quiet_of_same ((rat_any p o xs t1 _ (by exact HR4.out)).mono fun _ _ h => ⟨h.1, h.2.symm⟩))
          | (go_at_call 16; exact Calls.quiet_of (left_any p o xs t1 _ (by exact HR4.out)))
          | (go_at_call 37; exact Calls.quiet_of (refLeft_any w1.heap.size a xs.length cap t1 xs _ (by exact HF4.out)))))
        go_wp2
        go_roundw
        case rel => exact ⟨k + 1, t1, by omega, by go_num, by exact HR4.out, by exact HF4.out, by exact hkw4.drewN _⟩
        case measure => simp [intOf]; omega
      go_wp2_with fail
      refine (rbytes_any p o xs t n _ HR.out).mono ?_
      rintro e w3 ⟨v3, rfl, ho3, hr3, hk3, hv3⟩
      have HR3 := Lib.hid hr3
      have HF3 := Lib.hid (KF.out _ _ _ hk3 HF.out)
      have hkw3 := KP.out _ _ hkw hk3
      have hq3 : w1.heap.size < w3.heap.size := lt_of_blk HF3.out.1
      have hqr : w1.heap.size < wr.heap.size := lt_of_blk HF.out.1
      have HO3 := Lib.hid ho3
      have HV3 := Lib.hid hv3
      clear hr3 hk3 ho3 hv3
      go_wp2_with fail
      refine (refBytes_any w1.heap.size a xs.length cap t n xs _ HSP.out HF3.out).mono ?_
      rintro e w4 ⟨v4, rfl, ho4, hf4, hk4, -⟩
      have HF4 := Lib.hid hf4
      have HR4 := Lib.hid (KR.out _ _ _ hk4 HR3.out)
      have hkw4 := KQ.out _ _ hkw3 hk4
      have ho3 := HO3.out.kept hk4 (fun b hb hh => by have h9 := HV3.out b hb; have h' : b = w1.heap.size := hh; omega)
      obtain ⟨a3, c3, rfl, hs3, -⟩ := ho3.shape
      obtain ⟨a4, c4, rfl, hs4, -⟩ := ho4.shape
      obtain ⟨t1, ht1⟩ : ∃ z, nextY xs.length t n = z := ⟨_, rfl⟩
      rw [ht1] at HR4 HF4
      have hcv1 := run_str (P := Try.prog) (dst := 9) (cap := c3) Try.underlying29 Try.underlying5 Try.underlying9 hs3
      have hcv2 := run_str (P := Try.prog) (dst := 9) (cap := c4) Try.underlying29 Try.underlying5 Try.underlying9 hs4
      obtain ⟨str, hstr⟩ : ∃ str, strOfNums (resY xs t n) = str := ⟨_, rfl⟩
      rw [hstr] at hcv1 hcv2
      clear ht1 hf4 hk4 ho4 ho3 hs3 hs4 hstr HO3 HV3
      obtain ⟨⟨d0, -⟩, d1, -⟩ := blk2 HF4.out.1
      go_wp2
      go_quiet ((first
        | (go_at_call 36; exact Calls.quiet_of_same ((rat_any p o xs t1 _ (by exact HR4.out)).mono fun _ _ h => ⟨h.1, h.2.symm⟩))
        | (go_at_call 16; exact Calls.quiet_of (left_any p o xs t1 _ (by exact HR4.out)))
        | (go_at_call 37; exact Calls.quiet_of (refLeft_any w1.heap.size a xs.length cap t1 xs _ (by exact HF4.out)))))
      go_wp2
      go_roundw
      case rel => exact ⟨k + 1, t1, by omega, by go_num, by exact HR4.out, by exact HF4.out, by exact hkw4.drewN _⟩
      case measure => simp [intOf]; omega
    · go_wp2
      go_ret
      exact ⟨rfl, hkw⟩
theorem reads_early (len cap llen lcap : Nat) (a la : Option Addr) (w : World) (h : 400 < len ∨ (len ≤ 400 ∧ 400 < llen)) :
    Calls Try.prog 7 #[.slice a len cap, .slice la llen lcap] w fun e w' => e = .returned (.bool true) ∧ Kept (fun _ => False) w w' := by
  rcases h with h | ⟨h1, h⟩
  · have g1 : decide (400 < (len : Int)) = true := by simp; omega
    go_enter Try.func7, Try.ntmps7
    go_wp2_with fail
    refine (known_any _).mono ?_; rintro e w0 ⟨rfl, hk0⟩
    go_wp2
    go_ret
    exact ⟨rfl, hk0⟩
  · have g1 : decide (400 < (len : Int)) = false := by simp; omega
    have g2 : decide (400 < (llen : Int)) = true := by simp; omega
    go_enter Try.func7, Try.ntmps7
    go_wp2_with fail
    refine (known_any _).mono ?_; rintro e w0 ⟨rfl, hk0⟩
    go_wp2
    go_ret
    exact ⟨rfl, hk0⟩
theorem IsRow.spot {k : IntKind} {w : World} {a : Option Addr} {len cap : Nat} {zs : List Int} (h : IsRow k w a len cap zs) : ∀ x, a = some x → cap = 0 ∨ x.spot = none := by
  rintro x rfl
  rcases h with ⟨h, -⟩ | ⟨y, he, hl, hm, hz, hc, hw⟩
  · cases h
  · cases he
    by_cases h0 : cap = 0
    · exact .inl h0
    · have h1 := hc 0 (by omega)
      exact .inr (by simpa [Addr.add] using World.cell?_spot h1)
theorem reads_any {a la : Option Addr} {len cap llen lcap : Nat} {zs : List Int} {K N : Nat → Int} {w : World}
    (f0 : IsRow .u8 w a len cap zs) (f1 : IsPairs w la llen K N ∧ llen ≤ lcap ∧ lcap ≤ maxLen) :
    Calls Try.prog 7 #[.slice a len cap, .slice la llen lcap] w fun e w' => e = .returned (.bool true) ∧ Below w.heap.size w w' := by
  obtain ⟨s, c, m, b, l, hn⟩ := f0.slAt
  refine Calls.mono (R := fun e w' => e = .returned (.bool true) ∧ Kept (fun _ => False) w w') ?_ fun _ _ h => ⟨h.1, h.2.below⟩
  by_cases h : len ≤ 400 ∧ llen ≤ 400
  · obtain ⟨h1, h2⟩ := h
    have hx := s.1
    obtain ⟨xs, hxs⟩ : ∃ xs, zs.take len = xs := ⟨_, rfl⟩
    rw [hxs] at hx s b
    subst hx
    exact reads_go cap llen lcap a la xs K N w s hn f0.spot (bytes_of_wf b) l h1 c m f1.1 h2
  · exact reads_early len cap llen lcap a la w (by omega)
end Go.Proofs.Ytocahkmfopbdlaa
