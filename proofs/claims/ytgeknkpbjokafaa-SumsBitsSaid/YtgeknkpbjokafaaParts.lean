/- SumsParts: the walk of the law. -/
import Derived.Test.YtgeknkpbjokafaaKnown
namespace Go.Proofs.Ytgeknkpbjokafaa
open Go.RowKit Pl
set_option linter.unusedVariables false
theorem SlAt.sub {k : IntKind} {w : World} {b off len at_ n : Nat} {xs : List Int} (h : SlAt k w (some ⟨b, off, none⟩) len xs) (hn : at_ + n ≤ len) :
    SlAt k w (some ⟨b, off + at_, none⟩) n ((xs.drop at_).take n) := by
  obtain ⟨h1, h2⟩ := h
  refine ⟨by simp; omega, ?_⟩
  by_cases h0 : n = 0
  · exact .inl h0
  · obtain ⟨b', off', he, hc⟩ := h2.resolve_left (by omega)
    cases he
    refine .inr ⟨b, off + at_, rfl, fun j hj => ?_⟩
    rw [show off + at_ + j = off + (at_ + j) by omega, hc _ (by omega)]
    simp [hj]
theorem getD_mem {xs : List Int} {k : Nat} (h : k < xs.length) : xs.getD k 0 ∈ xs := by
  rw [List.getD_eq_getElem?_getD, List.getElem?_eq_getElem h]; exact List.getElem_mem _
theorem crcOf1 (p x len cap : Nat) (a : Option Addr) (xs : List Int) (w : World) (hp : w.heap[p]? = some (crcBlk x)) (hx : x < 4294967296) (hs : SlAt .u8 w a len xs) (hl : len ≤ 9223372036854775807) (hb : Bytes xs)
    (hne : ∀ b off, 0 < len → a = some ⟨b, off, none⟩ → b ≠ p) :
    Calls Try.prog 15 #[.pointer (some ⟨p, 0, none⟩), .slice (some ⟨w.heap.size, 0, none⟩) 1 1] (w.alloc (.cells #[.slice a len cap] 22)) fun e w' =>
      e = .returned (.int .u32 (crcV (crcs x (nats xs)) : Int)) ∧ w'.heap[p]? = some (crcBlk (crcs x (nats xs))) ∧ Kept (· = p) w w' := by
  have hpl := lt_of_blk hp
  have hj : joined [⟨a, len, cap, xs⟩] = nats xs := by simp [joined]
  rw [← hj]
  refine (crcOf p x 1 1 _ [⟨a, len, cap, xs⟩] _ (blk_alloc hp _) hx rfl (by decide) (.inr ⟨_, 0, rfl, by omega, ?_⟩) ?_).mono fun e w' h => ⟨h.1, h.2.1, ((Kept.refl _ _).alloc _).then h.2.2⟩
  · intro j hj
    obtain rfl : j = 0 := by omega
    rw [blk_cell (blk_at _ _ rfl)]; rfl
  · intro q hq
    obtain rfl : q = ⟨a, len, cap, xs⟩ := by simpa using hq
    exact ⟨hs.kept ((Kept.refl (fun _ => False) _).alloc _) (fun _ _ _ _ => id), hl, hb, hne⟩
theorem adlerOf1 (p len cap : Nat) (x : Nat × Nat) (a : Option Addr) (xs : List Int) (w : World) (hp : w.heap[p]? = some (adlBlk x)) (hx1 : x.1 < 65521) (hx2 : x.2 < 65521) (hs : SlAt .u8 w a len xs) (hl : len ≤ 9223372036854775807) (hb : Bytes xs)
    (hne : ∀ b off, 0 < len → a = some ⟨b, off, none⟩ → b ≠ p) :
    Calls Try.prog 16 #[.pointer (some ⟨p, 0, none⟩), .slice (some ⟨w.heap.size, 0, none⟩) 1 1] (w.alloc (.cells #[.slice a len cap] 22)) fun e w' =>
      e = .returned (.int .u32 (adlV (adls x (nats xs)) : Int)) ∧ w'.heap[p]? = some (adlBlk (adls x (nats xs))) ∧ Kept (· = p) w w' := by
  have hpl := lt_of_blk hp
  have hj : joined [⟨a, len, cap, xs⟩] = nats xs := by simp [joined]
  rw [← hj]
  refine (adlerOf p 1 1 x _ [⟨a, len, cap, xs⟩] _ (blk_alloc hp _) hx1 hx2 rfl (by decide) (.inr ⟨_, 0, rfl, by omega, ?_⟩) ?_).mono fun e w' h => ⟨h.1, h.2.1, ((Kept.refl _ _).alloc _).then h.2.2⟩
  · intro j hj
    obtain rfl : j = 0 := by omega
    rw [blk_cell (blk_at _ _ rfl)]; rfl
  · intro q hq
    obtain rfl : q = ⟨a, len, cap, xs⟩ := by simpa using hq
    exact ⟨hs.kept ((Kept.refl (fun _ => False) _).alloc _) (fun _ _ _ _ => id), hl, hb, hne⟩
theorem SlAt.drop {k : IntKind} {w : World} {b off len at_ : Nat} {xs : List Int} (h : SlAt k w (some ⟨b, off, none⟩) len xs) (hn : at_ ≤ len) :
    SlAt k w (some ⟨b, off + at_, none⟩) (len - at_) (xs.drop at_) := by
  have := h.sub (at_ := at_) (n := len - at_) (by omega)
  rwa [List.take_of_length_le (by have := h.1; simp; omega)] at this
theorem rem_cases (c m : Int) (hm : 0 < m) (hcl : -9223372036854775808 ≤ c) : ∃ n : Nat, (n : Int) < m ∧ ((0 ≤ c ∧ c % m = (n : Int)) ∨ (c < 0 ∧ 0 < n ∧ c.tmod m = -(n : Int)) ∨ (c < 0 ∧ c.tmod m = (n : Int))) := by
  by_cases hc : 0 ≤ c
  · exact ⟨(c % m).toNat, by have := Int.emod_nonneg c (Int.ne_of_gt hm); have := Int.emod_lt_of_pos c hm; omega, .inl ⟨hc, by have := Int.emod_nonneg c (Int.ne_of_gt hm); omega⟩⟩
  · have h1 : c.tmod m = -((-c) % m) := by rw [← Int.tmod_eq_emod_of_nonneg (by omega), Int.neg_tmod]; omega
    have h2 := Int.emod_nonneg (-c) (Int.ne_of_gt hm)
    have h3 := Int.emod_lt_of_pos (-c) hm
    refine ⟨((-c) % m).toNat, by omega, .inr ?_⟩
    by_cases h0 : (-c) % m = 0
    · exact .inr ⟨by omega, by omega⟩
    · exact .inl ⟨by omega, by omega, by omega⟩
theorem nats_add (xs : List Int) (a n : Nat) : nats (xs.take (a + n)) = nats (xs.take a) ++ nats ((xs.drop a).take n) := by
  unfold nats; rw [List.take_add, List.map_append]
set_option maxRecDepth 100000 in
set_option maxHeartbeats 2000000 in
theorem parts_go (a0 : Option Addr) (len cap : Nat) (xs : List Int) (a1 : Option Addr) (len1 cap1 : Nat) (cs : List Int) (w : World)
    (hs : SlAt .u8 w a0 len xs) (hc : len ≤ cap) (hcm : cap ≤ 9223372036854775807) (hb : Bytes xs) (hbl : ∀ b off, 0 < len → a0 = some ⟨b, off, none⟩ → b < w.heap.size)
    (hs1 : SlAt .i64 w a1 len1 cs) (hcr : ∀ n ∈ cs, -9223372036854775808 ≤ n ∧ n ≤ 9223372036854775807) (hbl1 : ∀ b off, 0 < len1 → a1 = some ⟨b, off, none⟩ → b < w.heap.size)
    (hl : len ≤ 8192) (hl1 : len1 ≤ 60) :
    Calls Try.prog 3 #[.slice a0 len cap, .slice a1 len1 cap1] w fun e w' => e = .returned (.bool true) ∧ Kept (fun _ => False) w w' := by
  have hzl : xs.length = len := hs.1
  have hd1 : decide (8192 < (len : Int)) = false := by simp; omega
  have hd2 : decide (60 < (len1 : Int)) = false := by simp; omega
  go_enter Try.func3, Try.ntmps3
  go_wp2_with (go_at_call 6; refine (known_any _).mono ?_; rintro e w0 ⟨rfl, hk0⟩)
  go_wp2_with fail
  refine (newCrc' _).mono ?_; rintro e w1 ⟨p, rfl, hp0, hp1, hpb, hk1⟩
  have HPB := Lib.hid hpb; clear hpb
  go_wp2_with fail
  refine (newAdler' _).mono ?_; rintro e w2 ⟨q, rfl, hq0, hq1, hqb, hk2⟩
  have HPB := Lib.hid (hk2.blk HPB.out id)
  have HQB := Lib.hid hqb; clear hqb
  have hkw := (hk0.then hk1).then hk2
  have hz0 := hk0.size
  have hz1 := hk1.size
  have hz2 := hk2.size
  clear hk0 hk1 hk2
  go_wp2_with fail
  go_loopw [7, 8] (fun t i wr => ∃ k at_ : Nat, k ≤ len1 ∧ at_ ≤ len ∧ i = .int .i64 k ∧ t = .int .i64 at_ ∧ wr.heap[p]? = some (crcBlk (crcs 4294967295 (nats (xs.take at_)))) ∧ wr.heap[q]? = some (adlBlk (adls (1, 0) (nats (xs.take at_)))) ∧ Kept (fun _ => False) w wr)
     (fun _ i _ => len1 - (intOf i).toNat)
  case atStart => exact ⟨0, 0, Nat.zero_le _, Nat.zero_le _, rfl, rfl, HPB.out, HQB.out, hkw⟩
  case round =>
    obtain ⟨k, at_, hk, hat, rfl, rfl, hpb, hqb, hkr⟩ := hrel
    have HPB := Lib.hid hpb; clear hpb
    have HQB := Lib.hid hqb; clear hqb
    by_cases hgo : k < len1 ∧ at_ < len
    · obtain ⟨hk1, hat1⟩ := hgo
      · obtain ⟨b, off, rfl, hcell⟩ := hs.2.resolve_left (by omega)
        obtain ⟨b1, off1, rfl, hcell1⟩ := hs1.2.resolve_left (by omega)
        have hbw := hbl b off (by omega) rfl
        have hc1 := hkr.cell (hcell1 k hk1) id
        have hcr1 := hcr (cs.getD k 0) (getD_mem (by have := hs1.1; omega))
        obtain ⟨c, hcc⟩ : ∃ c, c = cs.getD k 0 := ⟨_, rfl⟩
        rw [← hcc] at hc1 hcr1
        clear hcc hcell hcell1 hbl hbl1
        have hm0 : 0 < (len : Int) - at_ + 1 := by omega
        obtain ⟨n, hn1, hcase⟩ := rem_cases c ((len : Int) - at_ + 1) hm0 (by omega)
        have hn2 : at_ + n ≤ len := by omega
        have HX := Lib.hid (nats_add xs at_ n)
        have hsub := (hs.sub hn2).kept hkr (fun _ _ _ _ => id)
        have HT : SlAt IntKind.u8 w (some ⟨b, off, none⟩) (at_ + n) (xs.take (at_ + n)) := by have := hs.sub (at_ := 0) (n := at_ + n) (by omega); simpa using this
        clear hn1
        rcases hcase with ⟨hc0, hn'⟩ | ⟨hc0, hn0, hn'⟩ | ⟨hc0, hn'⟩
        all_goals
          go_wp2_with fail
          refine (crcWrite p _ _ _ _ _ _ HPB.out (crcs_lt _ (by decide) (hb.take _).nats) hsub (by omega) (fun z hz => hb z (List.mem_of_mem_drop (List.mem_of_mem_take hz))) (fun b' off' _ h => by cases h; omega)).mono ?_
          rintro e w3 ⟨rfl, hpb, hk3⟩
          have HQB := Lib.hid (hk3.blk HQB.out (by omega))
          have hkr3 : Kept (fun _ => False) w w3 := hkr.trans (hk3.mono (by omega))
          have HPB := Lib.hid hpb
          have hsub3 := hsub.kept hk3 (fun b' off' _ h => by cases h; omega)
          clear hpb hk3
          go_wp2_with fail
          refine (adlerWrite q _ _ _ _ _ _ HQB.out (adls_lt _ (by decide) (by decide)).1 (adls_lt _ (by decide) (by decide)).2 hsub3 (by omega) (fun z hz => hb z (List.mem_of_mem_drop (List.mem_of_mem_take hz))) (fun b' off' _ h => by cases h; omega)).mono ?_
          rintro e w4 ⟨rfl, hqb, hk4⟩
          have HPB := Lib.hid (hk4.blk HPB.out (by omega))
          have hkr4 : Kept (fun _ => False) w w4 := hkr3.trans (hk4.mono (by omega))
          rw [← adls_append, ← HX.out] at hqb
          have hpb := HPB.out
          rw [← crcs_append, ← HX.out] at hpb
          have HPB := Lib.hid hpb
          have HQB := Lib.hid hqb
          have HT4 := HT.kept hkr4 (fun _ _ _ _ => id)
          clear hpb hqb hk4 hn' hsub3 hsub hkr3
          go_wp2_with fail
          go_quiet ((first
            | (go_at_call 11; exact Calls.quiet_of_same ((crcSum p _ _ (by exact HPB.out) (crcs_lt _ (by decide) (hb.take _).nats)).mono fun _ _ h => ⟨h.1, h.2.symm⟩))
            | (go_at_call 12; exact Calls.quiet_of_same ((refCrc _ _ _ _ _ (by exact HT4) (by omega) (hb.take _)).mono fun _ _ h => ⟨h.1, h.2.symm⟩))
            | (go_at_call 13; exact Calls.quiet_of (adlerSum q _ _ (by exact HQB.out) (adls_lt _ (by decide) (by decide)).1 (adls_lt _ (by decide) (by decide)).2))
            | (go_at_call 14; exact Calls.quiet_of_same ((refAdler _ _ _ _ _ (by exact HT4) (by omega) (hb.take _)).mono fun _ _ h => ⟨h.1, h.2.symm⟩))))
          go_wp2
          go_roundw
          case rel => exact ⟨k + 1, at_ + n, by omega, by omega, by go_num, by go_num, HPB.out, HQB.out, hkr4.drewN _⟩
          case measure => simp [intOf]; omega
    · have hX : nats xs = nats (xs.take at_) ++ nats (xs.drop at_) := by unfold nats; rw [← List.map_append, List.take_append_drop]
      have E1 := Lib.hid (show crcs (crcs 4294967295 (nats (xs.take at_))) (nats (xs.drop at_)) = crcs 4294967295 (nats xs) by rw [← crcs_append, ← hX])
      have E2 := Lib.hid (show adls (adls (1, 0) (nats (xs.take at_))) (nats (xs.drop at_)) = adls (1, 0) (nats xs) by rw [← adls_append, ← hX])
      clear hX
      have hgo' : k = len1 ∨ k < len1 ∧ at_ = len := by omega
      have hsd : len = 0 ∨ ∃ b off, a0 = some ⟨b, off, none⟩ ∧ b < w.heap.size ∧ SlAt .u8 w (some ⟨b, off + at_, none⟩) (len - at_) (xs.drop at_) := by
        rcases hs with ⟨h1, h2 | ⟨b, off, rfl, hcell⟩⟩
        · exact .inl h2
        · by_cases h0 : len = 0
          · exact .inl h0
          · exact .inr ⟨b, off, rfl, hbl b off (by omega) rfl, SlAt.drop ⟨h1, .inr ⟨b, off, rfl, hcell⟩⟩ hat⟩
      clear hcr hbl1 hs1 hbl hgo
      rcases hsd with h0 | ⟨b, off, rfl, hbw, hsd⟩
      · subst h0
        obtain rfl : 0 = at_ := by omega
        have hsd : SlAt .u8 w a0 0 (xs.drop 0) := hs
        have hne : ∀ b off, 0 < 0 → a0 = some ⟨b, off, none⟩ → b < w.heap.size := fun _ _ h => absurd h (by omega)
        rcases hgo' with rfl | ⟨hk1, -⟩
        all_goals
          go_wp2_with fail
        all_goals
          refine (crcOf1 p _ _ _ _ (xs.drop 0) _ HPB.out (crcs_lt _ (by decide) (hb.take _).nats) (by first | exact hsd.kept hkr (fun _ _ _ _ => id) | exact ⟨by simp; omega, .inl (by omega)⟩) (by omega) (fun z hz => hb z (List.mem_of_mem_drop hz)) (by intro b' off' h0 h; first | omega | (have := hne b' off' h0 h; omega))).mono ?_
          rintro e w5 ⟨he, -, hk5⟩
          rw [E1.out] at he
          subst he
          have HQB := Lib.hid (hk5.blk HQB.out (by omega))
          have hkr5 : Kept (fun _ => False) w w5 := hkr.trans (hk5.mono (by omega))
          have hs5 := hs.kept hkr5 (fun _ _ _ _ => id)
          have hsd5 := hsd.kept hkr5 (fun _ _ _ _ => id)
          clear hk5
          go_wp2_with fail
          refine (refCrc _ _ _ _ _ hs5 (by omega) hb).mono ?_
          rintro e w' ⟨rfl, rfl⟩
          go_wp2_with fail
        all_goals
          refine (adlerOf1 q _ _ _ _ (xs.drop 0) _ HQB.out (adls_lt _ (by decide) (by decide)).1 (adls_lt _ (by decide) (by decide)).2 (by first | exact hsd5 | exact ⟨by simp; omega, .inl (by omega)⟩) (by omega) (fun z hz => hb z (List.mem_of_mem_drop hz)) (by intro b' off' h0 h; first | omega | (have := hne b' off' h0 h; omega))).mono ?_
          rintro e w6 ⟨he, -, hk6⟩
          rw [E2.out] at he
          subst he
          have hkr6 : Kept (fun _ => False) w w6 := hkr5.trans (hk6.mono (by omega))
          have hs6 := hs.kept hkr6 (fun _ _ _ _ => id)
          clear hk6
          go_wp2_with fail
          refine (refAdler _ _ _ _ _ hs6 (by omega) hb).mono ?_
          rintro e w' ⟨rfl, rfl⟩
          go_wp2
          go_ret
          exact ⟨rfl, hkr6⟩
      · have hne : ∀ b' off', 0 < len - at_ → some (⟨b, off + at_, none⟩ : Addr) = some ⟨b', off', none⟩ → b' < w.heap.size := fun _ _ _ h => by cases h; exact hbw
        have hgo2 : k = len1 ∨ k < len1 ∧ len ≤ at_ := by omega
        clear hgo'
        rcases hgo2 with rfl | ⟨hk1, hal⟩
        all_goals
          go_wp2_with fail
        all_goals
          refine (crcOf1 p _ _ _ _ (xs.drop at_) _ HPB.out (crcs_lt _ (by decide) (hb.take _).nats) (by first | exact hsd.kept hkr (fun _ _ _ _ => id) | exact ⟨by simp; omega, .inl (by omega)⟩) (by omega) (fun z hz => hb z (List.mem_of_mem_drop hz)) (by intro b' off' h0 h; first | omega | (have := hne b' off' h0 h; omega))).mono ?_
          rintro e w5 ⟨he, -, hk5⟩
          rw [E1.out] at he
          subst he
          have HQB := Lib.hid (hk5.blk HQB.out (by omega))
          have hkr5 : Kept (fun _ => False) w w5 := hkr.trans (hk5.mono (by omega))
          have hs5 := hs.kept hkr5 (fun _ _ _ _ => id)
          have hsd5 := hsd.kept hkr5 (fun _ _ _ _ => id)
          clear hk5
          go_wp2_with fail
          refine (refCrc _ _ _ _ _ hs5 (by omega) hb).mono ?_
          rintro e w' ⟨rfl, rfl⟩
          go_wp2_with fail
        all_goals
          refine (adlerOf1 q _ _ _ _ (xs.drop at_) _ HQB.out (adls_lt _ (by decide) (by decide)).1 (adls_lt _ (by decide) (by decide)).2 (by first | exact hsd5 | exact ⟨by simp; omega, .inl (by omega)⟩) (by omega) (fun z hz => hb z (List.mem_of_mem_drop hz)) (by intro b' off' h0 h; first | omega | (have := hne b' off' h0 h; omega))).mono ?_
          rintro e w6 ⟨he, -, hk6⟩
          rw [E2.out] at he
          subst he
          have hkr6 : Kept (fun _ => False) w w6 := hkr5.trans (hk6.mono (by omega))
          have hs6 := hs.kept hkr6 (fun _ _ _ _ => id)
          clear hk6
          go_wp2_with fail
          refine (refAdler _ _ _ _ _ hs6 (by omega) hb).mono ?_
          rintro e w' ⟨rfl, rfl⟩
          go_wp2
          go_ret
          exact ⟨rfl, hkr6⟩
end Go.Proofs.Ytgeknkpbjokafaa
namespace Go.Proofs.Ytgeknkpbjokafaa
open Go.RowKit Pl
theorem bytes_of_wf {xs : List Int} (h : ∀ n ∈ xs, (Lit.int .u8 n).wf = true) : Bytes xs := by
  intro n hn
  have := h n hn
  simp [Lit.wf, IntKind.min, IntKind.max, IntKind.signed, IntKind.bits] at this
  omega
theorem ints_of_wf {xs : List Int} (h : ∀ n ∈ xs, (Lit.int .i64 n).wf = true) : ∀ n ∈ xs, -9223372036854775808 ≤ n ∧ n ≤ 9223372036854775807 := by
  intro n hn
  have := h n hn
  simp [Lit.wf, IntKind.min, IntKind.max, IntKind.signed, IntKind.bits] at this
  omega
set_option maxHeartbeats 1000000 in
theorem parts_big (a0 : Option Addr) (len cap : Nat) (a1 : Option Addr) (len1 cap1 : Nat) (w : World) (hc : len ≤ 9223372036854775807) (hc1 : len1 ≤ 9223372036854775807) (h : 8192 < len ∨ 60 < len1) :
    Calls Try.prog 3 #[.slice a0 len cap, .slice a1 len1 cap1] w fun e w' => e = .returned (.bool true) ∧ Kept (fun _ => False) w w' := by
  by_cases h1 : 8192 < len
  · go_enter Try.func3, Try.ntmps3
    go_wp2_with (go_at_call 6; refine (known_any _).mono ?_; rintro e w0 ⟨rfl, hk0⟩)
    go_ret
    exact ⟨rfl, hk0⟩
  · have h2 : 60 < len1 := by omega
    clear h
    go_enter Try.func3, Try.ntmps3
    go_wp2_with (go_at_call 6; refine (known_any _).mono ?_; rintro e w0 ⟨rfl, hk0⟩)
    go_ret
    exact ⟨rfl, hk0⟩
theorem parts_any {a0 : Option Addr} {len0 cap0 : Nat} {z0 : List Int} {a1 : Option Addr} {len1 cap1 : Nat} {z1 : List Int} {w : World} (w0 : IsRow .u8 w a0 len0 cap0 z0) (w1 : IsRow .i64 w a1 len1 cap1 z1) :
    Calls Try.prog 3 #[.slice a0 len0 cap0, .slice a1 len1 cap1] w fun e w' => e = .returned (.bool true) ∧ Below w.heap.size w w' := by
  obtain ⟨s0, c0, m0, b0, l0, -⟩ := w0.slAt
  obtain ⟨s1, c1, m1, b1, l1, -⟩ := w1.slAt
  refine Calls.mono (R := fun e w' => e = .returned (.bool true) ∧ Kept (fun _ => False) w w') ?_ fun e w' h => ⟨h.1, h.2.below⟩
  by_cases h : 8192 < len0 ∨ 60 < len1
  · exact parts_big _ _ _ _ _ _ w (by omega) (by omega) h
  · exact parts_go _ _ _ _ _ _ _ _ w s0 c0 m0 (bytes_of_wf b0) l0 s1 (ints_of_wf b1) l1 (by omega) (by omega)
end Go.Proofs.Ytgeknkpbjokafaa
