/- A writer: bits laid. -/
import Derived.Test.YtndneidjnlammaaRbits
import Derived.Test.YtndneidjnlammaaAppStep
import Derived.Deep.LoopGhost
namespace Go.Proofs.Ytndneidjnlammaa
open Go.RowKit Pl
set_option linter.unusedVariables false
set_option maxRecDepth 100000 in
set_option maxHeartbeats 1000000 in
theorem wbits_no (p : Nat) (v n : Int) (w : World) (hn : n < 1 ∨ 32 < n) :
    Calls Try.prog 21 #[.pointer (some ⟨p, 0, none⟩), .int .u32 v, .int .i64 n] w fun e w' => e = .returned (.tuple #[]) ∧ w = w' := by
  by_cases h1 : n < 1
  · clear hn
    go_enter Try.func21, Try.ntmps21
    go_wp2
    exact bodyPost_ret (results_none rfl _ _ _) rfl ⟨rfl, rfl⟩
  · have h2 : 32 < n := by omega
    clear hn
    go_enter Try.func21, Try.ntmps21
    go_wp2
    exact bodyPost_ret (results_none rfl _ _ _) rfl ⟨rfl, rfl⟩
theorem put_lt {held n v k : Nat} (h : held < 2 ^ n) : held + v % 2 ^ k * 2 ^ n < 2 ^ (n + k) := by
  have h1 : v % 2 ^ k < 2 ^ k := Nat.mod_lt _ (Nat.two_pow_pos k)
  have h2 : (v % 2 ^ k + 1) * 2 ^ n ≤ 2 ^ k * 2 ^ n := Nat.mul_le_mul_right _ h1
  rw [Nat.pow_add, Nat.mul_comm (2 ^ n)]
  rw [Nat.add_mul] at h2
  omega
set_option maxRecDepth 100000 in
set_option maxHeartbeats 2000000 in
theorem wbits_yes (p : Nat) (o : Option Nat) (V L v k : Nat) (w : World) (h : WrAt w p o V L) (hv : v < 4294967296) (hk1 : 1 ≤ k) (hk2 : k ≤ 32) (hL : L ≤ 1099511627776) :
    Calls Try.prog 21 #[.pointer (some ⟨p, 0, none⟩), .int .u32 v, .int .i64 k] w fun e w' => e = .returned (.tuple #[]) ∧ ∃ o', WrAt w' p o' (V + v % 2 ^ k * 2 ^ L) (L + k) ∧ Kept (fun i => i = p ∨ o = some i) w w' ∧ (o' = o ∨ ∃ b, o' = some b ∧ w.heap.size ≤ b) := by
  obtain ⟨s, bs, held, n, h1, h2, h3, h4, h5, h6, h7, hVe, hLe⟩ := h
  have hbl0 : 8 * bs.length + n ≤ 1099511627776 := by omega
  obtain ⟨⟨c0, f0⟩, ⟨c1, f1⟩, c2, f2⟩ := blk3 h1
  have HB := Lib.hid h1
  have HO := Lib.hid h2
  have H3 := Lib.hid h3
  obtain ⟨a, cap, rfl, -⟩ := h2.shape
  clear h1 h2 h3
  have e1 := mask_and v k (by omega) hk2
  obtain ⟨h2, hh2⟩ : ∃ x, x = held + v % 2 ^ k * 2 ^ n := ⟨_, rfl⟩
  have hp2 : h2 < 2 ^ (n + k) := by rw [hh2]; exact put_lt h6
  have hV : wval (nats bs) h2 = V + v % 2 ^ k * 2 ^ L := by rw [hh2, wval_put, nats_length, hVe, hLe]
  have h39 : 2 ^ (n + k) ≤ 2 ^ 40 := pow_le (by omega)
  have e2 : bits BinOp.or IntKind.u64 (held : Int) (IntKind.u64.wrap ((v : Int) % 2 ^ k * 2 ^ n)) = (h2 : Int) := by
    rw [hh2, ← or_put held (v % 2 ^ k) n h6 (by omega) (by omega)]
    simp
  have HV := Lib.hid hV
  have HLe := Lib.hid hLe
  clear hh2 hV hVe hLe
  go_enter Try.func21, Try.ntmps21
  go_wp2
  go_region
  go_wp2
  have hw1 : Kept (fun i => i = p ∨ o = some i) w ((w.setCell ⟨p, 1, none⟩ (.int .u64 h2)).setCell ⟨p, 2, none⟩ (.int .i64 ((n : Int) + k))).drew := by
    have h : Kept (fun i => i = p ∨ o = some i) w w := Kept.refl _ _
    exact ((h.setCell (p := ⟨p, 1, none⟩) (.inl (.inl rfl)) _).setCell (p := ⟨p, 2, none⟩) (.inl (.inl rfl)) _).drew
  have hb1 : ((w.setCell ⟨p, 1, none⟩ (.int .u64 h2)).setCell ⟨p, 2, none⟩ (.int .i64 ((n : Int) + k))).drew.heap[p]? = some (wrBlk (.slice a bs.length cap) h2 (n + k)) := by
    have h1 := blk_set (blk_set HB.out 1 (.int .u64 h2)) 2 (.int .i64 ((n : Int) + k))
    have h3 : ((w.setCell ⟨p, 1, none⟩ (.int .u64 h2)).setCell ⟨p, 2, none⟩ (.int .i64 ((n : Int) + k))).heap[p]? = some (wrBlk (.slice a bs.length cap) h2 (n + k)) := by simpa [wrBlk] using h1
    exact h3
  have ho1 : Own .u8 5 ((w.setCell ⟨p, 1, none⟩ (.int .u64 h2)).setCell ⟨p, 2, none⟩ (.int .i64 ((n : Int) + k))).drew (.slice a bs.length cap) bs := by
    have h : Kept (fun i => i = p) w ((w.setCell ⟨p, 1, none⟩ (.int .u64 h2)).setCell ⟨p, 2, none⟩ (.int .i64 ((n : Int) + k))).drew :=
      (((Kept.refl (fun i => i = p) w).setCell (p := ⟨p, 1, none⟩) (.inl rfl) _).setCell (p := ⟨p, 2, none⟩) (.inl rfl) _).drew
    exact HO.out.kept h (fun b hb hp => h4 (by rw [← H3.out, hb]; exact congrArg some hp))
  generalize ((w.setCell ⟨p, 1, none⟩ (.int .u64 h2)).setCell ⟨p, 2, none⟩ (.int .i64 ((n : Int) + k))).drew = wa at *
  have hL'' : L + k ≤ 1099511627776 + 32 := by omega
  clear e1 e2 c0 f0 c1 f1 c2 f2
  obtain ⟨i0, hi, hz0, hz1, hz2⟩ := info_parts Try.infoByte
  have HI := Lib.hid (And.intro hi (And.intro hz0 (And.intro hz1 hz2)))
  clear hi hz0 hz1 hz2
  go_loopg [41] (n + k) (fun g _ wr => ∃ s bs held n, wr.heap[p]? = some (wrBlk s held n) ∧ Own .u8 5 wr s bs ∧ s.ownBlock ≠ some p ∧ Bytes bs ∧ held < 2 ^ n ∧ n ≤ 40 ∧ wval (nats bs) held = V + v % 2 ^ k * 2 ^ L ∧ 8 * bs.length + n = L + k ∧ Kept (fun i => i = p ∨ o = some i) w wr ∧ (s.ownBlock = o ∨ ∃ b, s.ownBlock = some b ∧ w.heap.size ≤ b) ∧ g = n)
  case atStart => exact ⟨_, bs, h2, n + k, hb1, ho1, by rw [H3.out]; exact h4, h5, hp2, by omega, HV.out, by rw [HLe.out]; omega, hw1, .inl H3.out, rfl⟩
  case round =>
    clear hb1 ho1 hw1 hp2 h39
    clear h4 h5 h6 h7 hbl0
    obtain ⟨s, bs, held, n, hb, ho, hop, hby, hh, hn40, hwv, hll, hkr, hor, rfl⟩ := hrel
    obtain ⟨⟨c0, f0⟩, ⟨c1, f1⟩, c2, f2⟩ := blk3 hb
    obtain ⟨a, cap, rfl, -⟩ := ho.shape
    have HB := Lib.hid hb
    have HO := Lib.hid ho
    have HW := Lib.hid hwv
    have HL := Lib.hid hll
    have HP := Lib.hid hop
    clear hop
    have HOR := Lib.hid hor
    clear hb ho hor
    have hpw : p < wr.heap.size := lt_of_blk HB.out
    have hbl : bs.length ≤ 1099511627776 := by omega
    clear hwv hll
    by_cases h8 : 8 ≤ gk
    · have hs1 : SlAt .u8 ((wr.alloc (.cells #[.int .u8 ((held : Int) % 256)] 5)).drew) (some ⟨wr.heap.size, 0, none⟩) 1 [(held : Int) % 256] := slAt_blk (blk_new wr (.cells #[.int .u8 ((held : Int) % 256)] 5)) rfl rfl
      have hoa : Own .u8 5 ((wr.alloc (.cells #[.int .u8 ((held : Int) % 256)] 5)).drew) (.slice a bs.length cap) bs := HO.out.kept (((Kept.refl (fun _ => False) wr).alloc _).drew) (fun _ _ => id)
      go_wp2
      go_region_law (refine step_appInts rfl (.tmp 54) (.tmp 60) 22 rfl 5 .u8 i0 (.int .u8 0) 1 Try.underlying22 HI.out.1 HI.out.2.1 HI.out.2.2.1 HI.out.2.2.2 rfl (.slice a bs.length cap) bs rfl (by exact hoa) (some ⟨wr.heap.size, 0, none⟩) 1 1 [(held : Int) % 256] rfl (fun h => by cases h) (by exact hs1) (by omega) (by simp [maxLen]; omega) ?_; intro v5 w5 ho5 hk5 hpr5; have hb5 : w5.heap[p]? = some (wrBlk (.slice a bs.length cap) held gk) := hk5.blk (by exact blk_alloc HB.out _) HP.out; obtain ⟨⟨d0, e0⟩, ⟨d1, e1⟩, d2, e2⟩ := blk3 hb5; have HB5 := Lib.hid hb5; clear hb5; obtain ⟨a5, cap5, rfl, -⟩ := ho5.shape; have HO5 := Lib.hid ho5; clear ho5; clear c0 c1 c2 f0 f1 f2)
      all_goals go_wp2
      all_goals
        have hzr := hkr.size
        have hz5 := hk5.size
        have hz5' : wr.heap.size < w5.heap.size := by have h1 : (wr.alloc (.cells #[.int .u8 0] 5)).heap.size ≤ w5.heap.size := by (have h2 := hz5; simp at h2 ⊢; omega)
                                                      simp at h1; omega
        have hkw5 : Kept (fun i => i = p ∨ o = some i) w w5 := by
          refine hkr.trans ((((Kept.refl _ wr).alloc _).drew).then (hk5.mono ?_))
          intro i _ hi
          rcases HOR.out with h | ⟨b, h, hb⟩
          · exact Or.inl (Or.inr (h ▸ hi))
          · rw [h] at hi; cases hi; exact Or.inr hb
        go_roundg (gk - 8)
        case measure => omega
        case rel =>
          have hn1 : nats (bs ++ [(held : Int) % 256]) = nats bs ++ [held % 256] := by simp [nats]; omega
          refine ⟨.slice a5 (bs.length + 1) cap5, bs ++ [(held : Int) % 256], held / 256, gk - 8, ?_, ?_, ?_, ?_, ?_, by omega, ?_, ?_, ?_, ?_, rfl⟩
          · have h1 := blk_set (blk_set (blk_set HB5.out 0 (.slice a5 (bs.length + 1) cap5)) 1 (.int .u64 ((held : Int) / 256))) 2 (.int .i64 ((gk : Int) - 8))
            have e9 : ((gk - 8 : Nat) : Int) = (gk : Int) - 8 := by omega
            simpa [wrBlk, e9] using h1
          · have h1 := HO5.out
            rw [List.length_append, List.length_singleton] at h1
            refine h1.kept (S := fun i => i = p) ?_ ?_
            · exact (((Kept.refl (fun i => i = p) w5).setCell (p := ⟨p, 0, none⟩) (.inl rfl) _).setCell (p := ⟨p, 1, none⟩) (.inl rfl) _).setCell (p := ⟨p, 2, none⟩) (.inl rfl) _
            · intro b hb hbp
              rw [List.length_append, List.length_singleton] at hpr5
              rcases hpr5 with h | h
              · exact HP.out (by rw [← h, hb]; exact congrArg some hbp)
              · rw [hb] at h; have h3 := Option.some.inj h; simp at h3; have hbp' : b = p := hbp; omega
          · intro h
            rw [List.length_append, List.length_singleton] at hpr5
            rcases hpr5 with h2 | h2
            · exact HP.out (by rw [← h2, h])
            · rw [h] at h2; have h3 := Option.some.inj h2; simp at h3; omega
          · intro q hq
            rcases List.mem_append.1 hq with h | h
            · exact hby q h
            · simp at h; omega
          · have h9 : held < 256 * 2 ^ (gk - 8) := by
              have : 2 ^ gk = 2 ^ 8 * 2 ^ (gk - 8) := by rw [← Nat.pow_add]; congr 1; omega
              omega
            exact Nat.div_lt_of_lt_mul h9
          · rw [hn1, wval_shift]; exact HW.out
          · have := HL.out; simp; omega
          · exact ((hkw5.setCell (p := ⟨p, 0, none⟩) (.inl (.inl rfl)) _).setCell (p := ⟨p, 1, none⟩) (.inl (.inl rfl)) _).setCell (p := ⟨p, 2, none⟩) (.inl (.inl rfl)) _
          · rw [List.length_append, List.length_singleton] at hpr5
            rcases hpr5 with h | h
            · rw [h]; exact HOR.out
            · exact Or.inr ⟨_, h, by simp; omega⟩
    · go_wp2
      go_end0
      refine ⟨rfl, (Value.slice a bs.length cap).ownBlock, ⟨_, bs, held, gk, HB.out, HO.out, rfl, HP.out, hby, hh, by omega, HW.out.symm, HL.out.symm⟩, hkr, HOR.out⟩
end Go.Proofs.Ytndneidjnlammaa
