/- SumsAhead: the walk of the law. -/
import Derived.Test.YtgeknkpbjokafaaParts
import Derived.Test.YtgeknkpbjokafaaOwn
namespace Go.Proofs.Ytgeknkpbjokafaa
open Go.RowKit Pl
set_option linter.unusedVariables false
theorem Try.info5 : (Try.prog.info? 5).map (fun i => (i.zero, i.size, i.bytes)) = some (some (.int .u8 0), 1, 1) := by kernel_rfl
theorem nats_append (a b : List Int) : nats (a ++ b) = nats a ++ nats b := List.map_append
set_option maxRecDepth 100000 in
set_option maxHeartbeats 2000000 in
theorem ahead_go (a0 : Option Addr) (len cap : Nat) (xs : List Int) (a1 : Option Addr) (len1 cap1 : Nat) (ys : List Int) (w : World)
    (hs : SlAt .u8 w a0 len xs) (hc : len ≤ cap) (hcm : cap ≤ 9223372036854775807) (hb : Bytes xs) (hbl : ∀ b off, 0 < len → a0 = some ⟨b, off, none⟩ → b < w.heap.size) (hn0 : a0 = none → len = 0 ∧ cap = 0)
    (hs1 : SlAt .u8 w a1 len1 ys) (hc1 : len1 ≤ cap1) (hcm1 : cap1 ≤ 9223372036854775807) (hb1 : Bytes ys) (hbl1 : ∀ b off, 0 < len1 → a1 = some ⟨b, off, none⟩ → b < w.heap.size) (hn1 : a1 = none → len1 = 0 ∧ cap1 = 0)
    (hl : len ≤ 8192) (hl1 : len1 ≤ 8192) :
    Calls Try.prog 5 #[.slice a0 len cap, .slice a1 len1 cap1] w fun e w' => e = .returned (.bool true) ∧ Kept (fun _ => False) w w' := by
  have hzl : xs.length = len := hs.1
  have hzl1 : ys.length = len1 := hs1.1
  have hd1 : decide (8192 < (len : Int)) = false := by simp; omega
  have hd2 : decide (8192 < (len1 : Int)) = false := by simp; omega
  obtain ⟨i0, hi, hz0, hz1, hz2⟩ := info_parts Try.info5
  go_enter Try.func5, Try.ntmps5
  go_wp2_with (go_at_call 6; refine (known_any _).mono ?_; rintro e w0 ⟨rfl, hk0⟩)
  go_wp2_with fail
  refine (newCrc' _).mono ?_; rintro e w1 ⟨p, rfl, hp0, hp1, hpb, hk1⟩
  have HP := Lib.hid hpb; clear hpb
  go_wp2_with fail
  refine (newCrc' _).mono ?_; rintro e w2 ⟨p2, rfl, hp20, hp21, hpb2, hk2⟩
  have HP := Lib.hid (hk2.blk HP.out id)
  have HP2 := Lib.hid hpb2; clear hpb2
  go_wp2_with fail
  refine (newAdler' _).mono ?_; rintro e w3 ⟨q, rfl, hq0, hq1, hqb, hk3⟩
  have HP := Lib.hid (hk3.blk HP.out id)
  have HP2 := Lib.hid (hk3.blk HP2.out id)
  have HQ := Lib.hid hqb; clear hqb
  go_wp2_with fail
  refine (newAdler' _).mono ?_; rintro e w4 ⟨q2, rfl, hq20, hq21, hqb2, hk4⟩
  have HP := Lib.hid (hk4.blk HP.out id)
  have HP2 := Lib.hid (hk4.blk HP2.out id)
  have HQ := Lib.hid (hk4.blk HQ.out id)
  have HQ2 := Lib.hid hqb2; clear hqb2
  have hkw := (((hk0.then hk1).then hk2).then hk3).then hk4
  have hz0' := hk0.size
  have hz1' := hk1.size
  have hz2' := hk2.size
  have hz3' := hk3.size
  have hz4' := hk4.size
  clear hk0 hk1 hk2 hk3 hk4
  have hs4 := (hs.kept hkw (fun _ _ _ _ => id)).kept ((Kept.refl (fun _ => False) _).alloc (.cells #[] 5)) (fun _ _ _ _ => id)
  go_wp2_with (first
    | (at_builtin; refine wpList_appInts rfl (.tmp 40) (.tmp 41) 22 rfl 5 .u8 i0 (.int .u8 0) 1 Try.underlying22 hi hz0 hz1 hz2 rfl (.slice (some ⟨w4.heap.size, 0, none⟩) 0 0) [] rfl (Own.new .u8 w4) a0 len cap xs rfl hn0 hs4 (by simp; omega) (by simp [maxLen]; omega) ?_; intro v5 w5 ho5 hk5 hpr5; have hkw5 : Kept (fun _ => False) w w5 := (hkw.alloc _).trans (hk5.mono (fun k _ h => .inr (by cases h; exact hkw.size))); have hs5 := hs1.kept hkw5 (fun _ _ _ _ => id); rw [List.nil_append] at ho5)
    | (at_builtin; refine wpList_appInts rfl (.tmp 42) (.tmp 43) 22 rfl 5 .u8 i0 (.int .u8 0) 1 Try.underlying22 hi hz0 hz1 hz2 rfl v5 xs rfl ho5 a1 len1 cap1 ys rfl hn1 hs5 (by omega) (by simp [maxLen]; omega) ?_; intro v6 w6 ho6 hk6 hpr6))
  have hzl2 := hzl1
  obtain ⟨a6, cap6, hv6, hs6, hc6, hcm6, hn6, hg6⟩ := ho6.shape
  have hk7 : Kept (fun k => w4.heap.size ≤ k) w4 w6 := (((Kept.refl _ w4).alloc _).then (hk5.mono (fun k _ h => by cases h; exact Nat.le_refl _))).then (hk6.mono (fun k hk h => by
    rcases hpr5 with h1 | h1 <;> rw [h1] at h
    · cases h; exact Nat.le_refl _
    · have h2 := Option.some.inj h; simp at h2; omega))
  have hge : ∀ b, v6.ownBlock = some b → w4.heap.size ≤ b := by
    intro b h
    have hz5 := hk5.size
    simp only [World.size_alloc] at hz5
    rcases hpr6 with h1 | h1 <;> rw [h1] at h
    · rcases hpr5 with h1 | h1 <;> rw [h1] at h
      · cases h; exact Nat.le_refl _
      · have h2 := Option.some.inj h; simp at h2; omega
    · cases h; omega
  have hkw6 : Kept (fun _ => False) w w6 := hkw.trans (hk7.mono (by omega))
  have HP := Lib.hid (hk7.blk HP.out (by omega))
  have HP2 := Lib.hid (hk7.blk HP2.out (by omega))
  have HQ := Lib.hid (hk7.blk HQ.out (by omega))
  have HQ2 := Lib.hid (hk7.blk HQ2.out (by omega))
  have hz6 := hk7.size
  have hne6 : ∀ b off, 0 < (xs ++ ys).length → a6 = some ⟨b, off, none⟩ → w4.heap.size ≤ b := fun b off _ h => hge b (hg6 b off h)
  have hl6 : (xs ++ ys).length ≤ 16384 := by simp; omega
  have hb6 : Bytes (xs ++ ys) := fun n hn => (List.mem_append.1 hn).elim (hb n) (hb1 n)
  have E1 := Lib.hid (show crcs 4294967295 (nats (xs ++ ys)) = crcs (crcs 4294967295 (nats xs)) (nats ys) by rw [nats_append, crcs_append])
  have E2 := Lib.hid (show adls (1, 0) (nats (xs ++ ys)) = adls (adls (1, 0) (nats xs)) (nats ys) by rw [nats_append, adls_append])
  clear hk5 hk6 hk7 hpr5 hpr6 hs5 hkw5 ho5 ho6 hge hg6 hkw hs4 hn6 hc6 hcm6
  rw [hv6]
  clear hv6
  generalize (xs ++ ys).length = len6 at *
  refine (crcOf1 p _ _ _ _ xs _ HP.out (by decide) (hs.kept hkw6 (fun _ _ _ _ => id)) (by omega) hb (fun b off h0 h => by have := hbl b off h0 h; omega)).mono ?_
  rintro e w7 ⟨rfl, hp7, hk7⟩
  have HP := Lib.hid hp7
  have HP2 := Lib.hid (hk7.blk HP2.out (by omega))
  have HQ := Lib.hid (hk7.blk HQ.out (by omega))
  have HQ2 := Lib.hid (hk7.blk HQ2.out (by omega))
  have hs7 := hs6.kept hk7 (fun b off h0 h => by have := hne6 b off h0 h; omega)
  have hkw7 : Kept (fun _ => False) w w7 := hkw6.trans (hk7.mono (by omega))
  clear hp7 hk7 hs6 hkw6
  go_wp2_with fail
  refine (adlerOf1 q _ _ _ _ xs _ HQ.out (by decide) (by decide) (hs.kept hkw7 (fun _ _ _ _ => id)) (by omega) hb (fun b off h0 h => by have := hbl b off h0 h; omega)).mono ?_
  rintro e w8 ⟨rfl, hp8, hk8⟩
  have HQ := Lib.hid hp8
  have HP := Lib.hid (hk8.blk HP.out (by omega))
  have HP2 := Lib.hid (hk8.blk HP2.out (by omega))
  have HQ2 := Lib.hid (hk8.blk HQ2.out (by omega))
  have hs8 := hs7.kept hk8 (fun b off h0 h => by have := hne6 b off h0 h; omega)
  have hkw8 : Kept (fun _ => False) w w8 := hkw7.trans (hk8.mono (by omega))
  clear hp8 hk8 hs7 hkw7
  have hX := crcs_lt _ (show 4294967295 < 2 ^ 32 by decide) hb.nats
  have hX2 := crcs_lt _ hX hb1.nats
  have hY := adls_lt (nats xs) (s := (1, 0)) (by decide) (by decide)
  go_wp2_with fail
  refine (crcSum p _ _ HP.out hX).mono ?_; rintro e w' ⟨rfl, rfl⟩
  go_wp2_with fail
  refine (adlerSum q _ _ HQ.out hY.1 hY.2).mono ?_; rintro e w9 ⟨rfl, hm⟩
  have hk9 : Kept (fun _ => False) w8 w9 := by obtain ⟨m, rfl⟩ := hm; exact (Kept.refl _ _).drewN _
  have HP := Lib.hid (hk9.blk HP.out id)
  have HP2 := Lib.hid (hk9.blk HP2.out id)
  have HQ := Lib.hid (hk9.blk HQ.out id)
  have HQ2 := Lib.hid (hk9.blk HQ2.out id)
  have hs9 := hs8.kept hk9 (fun _ _ _ _ => id)
  have hkw9 := hkw8.then hk9
  clear hm hk9 hs8 hkw8
  go_wp2_with fail
  refine (crcOf1 p _ _ _ _ ys _ HP.out hX (hs1.kept hkw9 (fun _ _ _ _ => id)) (by omega) hb1 (fun b off h0 h => by have := hbl1 b off h0 h; omega)).mono ?_
  rintro e w10 ⟨rfl, hp7, hk7⟩
  have HP := Lib.hid hp7
  have HP2 := Lib.hid (hk7.blk HP2.out (by omega))
  have HQ := Lib.hid (hk7.blk HQ.out (by omega))
  have HQ2 := Lib.hid (hk7.blk HQ2.out (by omega))
  have hs10 := hs9.kept hk7 (fun b off h0 h => by have := hne6 b off h0 h; omega)
  have hkw10 : Kept (fun _ => False) w w10 := hkw9.trans (hk7.mono (by omega))
  clear hp7 hk7 hs9 hkw9
  go_wp2_with fail
  refine (crcOf1 p2 _ _ _ _ (xs ++ ys) _ HP2.out (by decide) hs10 (by omega) hb6 (fun b off h0 h => by have := hne6 b off h0 h; omega)).mono ?_
  rw [E1.out]
  rintro e w11 ⟨rfl, hp7, hk7⟩
  have HP2 := Lib.hid hp7
  have HP := Lib.hid (hk7.blk HP.out (by omega))
  have HQ := Lib.hid (hk7.blk HQ.out (by omega))
  have HQ2 := Lib.hid (hk7.blk HQ2.out (by omega))
  have hs11 := hs10.kept hk7 (fun b off h0 h => by have := hne6 b off h0 h; omega)
  have hkw11 : Kept (fun _ => False) w w11 := hkw10.trans (hk7.mono (by omega))
  clear hp7 hk7 hs10 hkw10
  go_wp2_with fail
  refine (adlerOf1 q _ _ _ _ ys _ HQ.out hY.1 hY.2 (hs1.kept hkw11 (fun _ _ _ _ => id)) (by omega) hb1 (fun b off h0 h => by have := hbl1 b off h0 h; omega)).mono ?_
  rintro e w12 ⟨rfl, hp7, hk7⟩
  have HP2 := Lib.hid (hk7.blk HP2.out (by omega))
  have HP := Lib.hid (hk7.blk HP.out (by omega))
  have HQ2 := Lib.hid (hk7.blk HQ2.out (by omega))
  have hs12 := hs11.kept hk7 (fun b off h0 h => by have := hne6 b off h0 h; omega)
  have hkw12 : Kept (fun _ => False) w w12 := hkw11.trans (hk7.mono (by omega))
  clear hp7 hk7 hs11 hkw11
  go_wp2_with fail
  refine (adlerOf1 q2 _ _ _ _ (xs ++ ys) _ HQ2.out (by decide) (by decide) hs12 (by omega) hb6 (fun b off h0 h => by have := hne6 b off h0 h; omega)).mono ?_
  rw [E2.out]
  rintro e w13 ⟨rfl, hp7, hk7⟩
  have HP2 := Lib.hid (hk7.blk HP2.out (by omega))
  have HP := Lib.hid (hk7.blk HP.out (by omega))
  have hkw13 : Kept (fun _ => False) w w13 := hkw12.trans (hk7.mono (by omega))
  clear hp7 hk7 hs12 hkw12
  go_wp2_with fail
  refine (crcOf p _ 0 0 none [] _ HP.out hX2 rfl (by decide) (.inl rfl) (fun q hq => by cases hq)).mono ?_
  rintro e w14 ⟨he, hp7, hk7⟩
  have he : e = .returned (.int .u32 (crcV (crcs (crcs 4294967295 (nats xs)) (nats ys)) : Int)) := he
  subst he
  have HP2 := Lib.hid (hk7.blk HP2.out (by omega))
  have hkw14 : Kept (fun _ => False) w w14 := hkw13.trans (hk7.mono (by omega))
  clear hp7 hk7 hkw13
  go_wp2_with fail
  refine (crcSum p2 _ _ HP2.out hX2).mono ?_; rintro e w' ⟨rfl, rfl⟩
  go_wp2
  go_ret
  exact ⟨rfl, hkw14⟩
end Go.Proofs.Ytgeknkpbjokafaa
namespace Go.Proofs.Ytgeknkpbjokafaa
open Go.RowKit Pl
set_option maxHeartbeats 1000000 in
theorem ahead_big (a0 : Option Addr) (len cap : Nat) (a1 : Option Addr) (len1 cap1 : Nat) (w : World) (hc : len ≤ 9223372036854775807) (hc1 : len1 ≤ 9223372036854775807) (h : 8192 < len ∨ 8192 < len1) :
    Calls Try.prog 5 #[.slice a0 len cap, .slice a1 len1 cap1] w fun e w' => e = .returned (.bool true) ∧ Kept (fun _ => False) w w' := by
  by_cases h1 : 8192 < len
  · go_enter Try.func5, Try.ntmps5
    go_wp2_with (go_at_call 6; refine (known_any _).mono ?_; rintro e w0 ⟨rfl, hk0⟩)
    go_ret
    exact ⟨rfl, hk0⟩
  · have h2 : 8192 < len1 := by omega
    clear h
    go_enter Try.func5, Try.ntmps5
    go_wp2_with (go_at_call 6; refine (known_any _).mono ?_; rintro e w0 ⟨rfl, hk0⟩)
    go_ret
    exact ⟨rfl, hk0⟩
theorem ahead_any {a0 : Option Addr} {len0 cap0 : Nat} {z0 : List Int} {a1 : Option Addr} {len1 cap1 : Nat} {z1 : List Int} {w : World} (w0 : IsRow .u8 w a0 len0 cap0 z0) (w1 : IsRow .u8 w a1 len1 cap1 z1) :
    Calls Try.prog 5 #[.slice a0 len0 cap0, .slice a1 len1 cap1] w fun e w' => e = .returned (.bool true) ∧ Below w.heap.size w w' := by
  obtain ⟨s0, c0, m0, b0, l0, n0⟩ := w0.slAt
  obtain ⟨s1, c1, m1, b1, l1, n1⟩ := w1.slAt
  refine Calls.mono (R := fun e w' => e = .returned (.bool true) ∧ Kept (fun _ => False) w w') ?_ fun e w' h => ⟨h.1, h.2.below⟩
  by_cases h : 8192 < len0 ∨ 8192 < len1
  · exact ahead_big _ _ _ _ _ _ w (by omega) (by omega) h
  · exact ahead_go _ _ _ _ _ _ _ _ w s0 c0 m0 (bytes_of_wf b0) l0 n0 s1 c1 m1 (bytes_of_wf b1) l1 n1 (by omega) (by omega)
end Go.Proofs.Ytgeknkpbjokafaa
