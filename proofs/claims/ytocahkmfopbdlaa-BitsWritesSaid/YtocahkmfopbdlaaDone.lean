/- Writer.Done, Mul: what they compute. -/
import Derived.Test.YtocahkmfopbdlaaWbits
import Derived.Test.YtocahkmfopbdlaaStr
namespace Go.Proofs.Ytocahkmfopbdlaa
open Go.RowKit Pl
set_option linter.unusedVariables false
set_option maxRecDepth 100000 in
set_option maxHeartbeats 1000000 in
theorem done_any (p : Nat) (o : Option Nat) (V L : Nat) (w : World) (h : WrAt w p o V L) (hL : L ≤ 1099511627776) :
    Calls Try.prog 14 #[.pointer (some ⟨p, 0, none⟩)] w fun e w' => ∃ v ds, e = .returned v ∧ Own .u8 5 w' v ds ∧ Bytes ds ∧ val (nats ds) = V ∧ ds.length = (L + 7) / 8 ∧ Kept (fun _ => False) w w' ∧ ∀ b, v.ownBlock = some b → w.heap.size ≤ b := by
  obtain ⟨s, bs, held, n, h1, h2, h3, h4, h5, h6, h7, hV, hLe⟩ := h
  obtain ⟨⟨c0, -⟩, ⟨c1, -⟩, c2, -⟩ := blk3 h1
  obtain ⟨a, cap, rfl, hsl, hcap, hcm, hnil, -⟩ := h2.shape
  have HV := Lib.hid hV
  have HL := Lib.hid hLe
  have HB := Lib.hid h1
  have hbl : bs.length ≤ 1099511627776 := by omega
  clear h1 h2 h3 h4 hV hLe
  by_cases hn : n = 0
  · subst hn
    have h0 : held = 0 := by simpa using h6
    subst h0
    go_enter Try.func14, Try.ntmps14
    go_wp2_with fail
    refine (clone_any a _ cap bs _ hsl (fun h => hnil h) (by omega)).mono ?_
    rintro e w1 ⟨v, rfl, ho, hk, hf⟩
    have d2 := hk.cell c2 id
    have HO := Lib.hid ho
    clear ho
    go_wp2
    go_ret
    exact ⟨_, bs, rfl, HO.out, h5, by rw [HV.out]; simp [wval], by have := HL.out; omega, hk, hf⟩
  · obtain ⟨i0, hi, hz0, hz1, hz2⟩ := info_parts Try.infoByte
    have HI := Lib.hid (And.intro hi (And.intro hz0 (And.intro hz1 hz2)))
    clear hi hz0 hz1 hz2
    go_enter Try.func14, Try.ntmps14
    go_wp2_with (first
      | (go_at_call 38; refine (clone_any a _ cap bs _ hsl (fun h => hnil h) (by omega)).mono ?_; rintro e w1 ⟨v, rfl, ho, hk, hf⟩; have d1 := hk.cell c1 id; have d2 := hk.cell c2 id; have hoa := ho.kept ((Kept.refl (fun _ => False) w1).alloc (.cells #[.int .u8 ((held : Int) % 256)] 5)) (fun _ _ => id); have hs1 : SlAt .u8 (w1.alloc (.cells #[.int .u8 ((held : Int) % 256)] 5)) (some ⟨w1.heap.size, 0, none⟩) 1 [(held : Int) % 256] := slAt_blk (blk_new w1 _) rfl rfl; have hz := hk.size)
      | (at_builtin; refine wpList_appInts rfl (.tmp 14) (.tmp 20) 29 rfl 5 .u8 i0 (.int .u8 0) 1 Try.underlying29 HI.out.1 HI.out.2.1 HI.out.2.2.1 HI.out.2.2.2 rfl v bs rfl hoa (some ⟨w1.heap.size, 0, none⟩) 1 1 [(held : Int) % 256] rfl (fun h => by cases h) hs1 (by omega) (by simp [maxLen]; omega) ?_; intro v5 w5 ho5 hk5 hpr5))
    go_ret
    have hlt : held < 256 := Nat.lt_of_lt_of_le h6 (by have := pow_le (show n ≤ 8 by omega); omega)
    have hn1 : nats (bs ++ [(held : Int) % 256]) = nats bs ++ [held] := by simp [nats]; omega
    refine ⟨_, bs ++ [(held : Int) % 256], rfl, ho5, ?_, ?_, ?_, ?_, ?_⟩
    · intro q hq
      rcases List.mem_append.1 hq with h | h
      · exact h5 q h
      · simp at h; omega
    · rw [hn1, val_append, HV.out]; simp [wval, val]
    · have := HL.out; simp; omega
    · exact (hk.alloc _).trans (hk5.mono (fun i _ hi => Or.inr (hf i hi)))
    · exact ho5.app_new hpr5 (by simp; omega) hf
def mulGo : Int → List Int → Int × Bool
  | out, [] => (out, true)
  | out, v :: l => if v < 0 ∨ (0 < v ∧ 1099511627776 / v < out) then (0, false) else mulGo (out * v) l
theorem mul_step {out v : Int} (h0 : 0 ≤ out) (ho : out ≤ 1099511627776) (h : ¬ (v < 0 ∨ (0 < v ∧ 1099511627776 / v < out))) : 0 ≤ out * v ∧ out * v ≤ 1099511627776 := by
  have hv : 0 ≤ v := by omega
  refine ⟨Int.mul_nonneg h0 hv, ?_⟩
  by_cases hz : v = 0
  · subst hz; simp
  · have h1 : out ≤ 1099511627776 / v := by omega
    have h2 := Int.mul_le_mul_of_nonneg_right h1 hv
    have h3 := Int.ediv_mul_le 1099511627776 hz
    omega
set_option maxRecDepth 100000 in
set_option maxHeartbeats 1000000 in
theorem mul_any (a : Option Addr) (len cap : Nat) (xs : List Int) (w : World) (hs : SlAt .i64 w a len xs) (hl : len ≤ 9223372036854775807) (hr : ∀ n ∈ xs, -9223372036854775808 ≤ n ∧ n ≤ 9223372036854775807) :
    Calls Try.prog 17 #[.slice a len cap] w fun e w' => e = .returned (.tuple #[.int .i64 (mulGo 1 xs).1, .bool (mulGo 1 xs).2]) ∧ w = w' := by
  have hxl := hs.1
  go_enter Try.func17, Try.ntmps17
  go_wp2
  go_loop [4, 9] (fun o i => ∃ (k : Nat) (out : Int), k ≤ len ∧ i = .int .i64 k ∧ o = .int .i64 out ∧ 0 ≤ out ∧ out ≤ 1099511627776 ∧ mulGo 1 xs = mulGo out (xs.drop k)) (fun _ i => len - (intOf i).toNat)
  case atStart => exact ⟨0, 1, by omega, rfl, rfl, by omega, by omega, rfl⟩
  case round =>
    obtain ⟨k, out, hk, rfl, rfl, h0, ho, hm⟩ := hrel
    have HM := Lib.hid hm
    clear hm
    by_cases hkl : k < len
    · obtain ⟨b, off, rfl, hc⟩ := hs.2.resolve_left (by omega)
      have hcell := hc k hkl
      have hkx : k < xs.length := by omega
      obtain ⟨v, hv⟩ : ∃ v, v = xs.getD k 0 := ⟨_, rfl⟩
      have hrv := hr v (by rw [hv, List.getD_eq_getElem?_getD, List.getElem?_eq_getElem hkx]; exact List.getElem_mem _)
      have hd : xs.drop k = v :: xs.drop (k + 1) := by rw [List.drop_eq_getElem_cons hkx, hv]; simp [hkx]
      rw [← hv] at hcell
      have HD := Lib.hid hd
      clear hv hd hc hs hr hxl
      by_cases hbad : v < 0 ∨ (0 < v ∧ 1099511627776 / v < out)
      · have e : mulGo 1 xs = (0, false) := by rw [HM.out, HD.out]; exact if_pos hbad
        rw [e]
        rcases hbad with hb | ⟨hb1, hb2⟩
        · go_wp2
          go_ret2
          exact ⟨rfl, rfl⟩
        · have hv0 : v ≠ 0 := by omega
          go_wp2
          go_ret2
          exact ⟨rfl, rfl⟩
      · have hst := mul_step h0 ho hbad
        have e := Lib.hid (show mulGo 1 xs = mulGo (out * v) (xs.drop (k + 1)) by rw [HM.out, HD.out]; exact if_neg hbad)
        by_cases hv0 : 0 < v
        · have hb2 : ¬ 1099511627776 / v < out := fun h => hbad (.inr ⟨hv0, h⟩)
          have hv0' : v ≠ 0 := by omega
          clear hbad
          go_wp2
          go_round
          case rel => exact ⟨k + 1, _, by omega, by go_num, rfl, hst.1, hst.2, e.out⟩
          case measure => simp [intOf]; omega
        · have hvz : ¬ v < 0 := fun h => hbad (.inl h)
          clear hbad
          go_wp2
          go_round
          case rel => exact ⟨k + 1, _, by omega, by go_num, rfl, hst.1, hst.2, e.out⟩
          case measure => simp [intOf]; omega
    · have hd : xs.drop k = [] := List.drop_eq_nil_of_le (by omega)
      have e : mulGo 1 xs = (out, true) := by rw [HM.out, hd]; rfl
      rw [e]
      go_wp2
      go_ret2
      exact ⟨rfl, rfl⟩
end Go.Proofs.Ytocahkmfopbdlaa
