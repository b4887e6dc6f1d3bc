/- The reference's writer: each bit a byte of a list. -/
import Derived.Test.YtocahkmfopbdlaaApp
import Derived.Test.YtocahkmfopbdlaaBack
namespace Go.Proofs.Ytocahkmfopbdlaa
open Go.RowKit Pl
set_option linter.unusedVariables false
/-- Bits as one number, the lowest first. -/
def bval : List Nat → Nat
  | [] => 0
  | b :: l => b + 2 * bval l
theorem bval_append (a : List Nat) (x : Nat) : bval (a ++ [x]) = bval a + x * 2 ^ a.length := by
  induction a with
  | nil => simp [bval]
  | cons y a ih => simp only [List.cons_append, bval, ih, List.length_cons, Nat.pow_succ]; rw [Nat.mul_add, Nat.mul_left_comm, Nat.mul_comm 2 (2 ^ a.length)]; omega
def Bit (xs : List Int) : Prop := ∀ n ∈ xs, n = 0 ∨ n = 1
theorem bval_lt : ∀ (l : List Int), Bit l → bval (nats l) < 2 ^ l.length
  | [], _ => by simp [bval, nats]
  | b :: l, h => by
    have h1 := bval_lt l (fun x hx => h x (by simp [hx]))
    have h2 := h b (by simp)
    simp only [nats, List.map_cons, bval, List.length_cons, Nat.pow_succ] at h1 ⊢
    omega
/-- The reference's writer at block q: its bits, in block o, as one number; how many. -/
def RwAt (w : World) (q : Nat) (o : Option Nat) (V L : Nat) : Prop :=
  ∃ v bs, w.heap[q]? = some (.cells #[v] 49 (0, 0)) ∧ Own .u8 5 w v bs ∧ v.ownBlock = o ∧ o ≠ some q ∧ Bit bs ∧ bval (nats bs) = V ∧ bs.length = L
theorem RwAt.kept {S : Nat → Prop} {w w' : World} {q : Nat} {o : Option Nat} {V L : Nat} (h : RwAt w q o V L) (hk : Kept S w w') (hq : ¬ S q) (ho : ∀ b, o = some b → ¬ S b) : RwAt w' q o V L := by
  obtain ⟨v, bs, h1, h2, h3, h4⟩ := h
  exact ⟨v, bs, hk.blk h1 hq, h2.kept hk (fun b hb => ho b (h3 ▸ hb)), h3, h4⟩
theorem RwAt.lt {w : World} {q : Nat} {o : Option Nat} {V L : Nat} (h : RwAt w q o V L) : q < w.heap.size ∧ ∀ b, o = some b → b < w.heap.size := by
  obtain ⟨v, bs, h1, h2, h3, h4⟩ := h
  exact ⟨lt_of_blk h1, fun b hb => h2.lt b (h3.trans hb)⟩
def Ext (w : World) (q : Nat) (o o' : Option Nat) (w' : World) : Prop := Kept (fun i => i = q ∨ o = some i) w w' ∧ (o' = o ∨ ∃ b, o' = some b ∧ w.heap.size ≤ b)
theorem Ext.refl (w : World) (q : Nat) (o : Option Nat) : Ext w q o o w := ⟨Kept.refl _ _, .inl rfl⟩
theorem Ext.trans {w w1 w2 : World} {q : Nat} {o o1 o2 : Option Nat} (h : Ext w q o o1 w1) (k : Ext w1 q o1 o2 w2) : Ext w q o o2 w2 := by
  obtain ⟨h1, h2⟩ := h
  obtain ⟨k1, k2⟩ := k
  have hz := h1.size
  refine ⟨h1.trans (k1.mono ?_), ?_⟩
  · rintro i _ (hi | hi)
    · exact .inl (.inl hi)
    · rcases h2 with h | ⟨b, h, hb⟩
      · exact .inl (.inr (h ▸ hi))
      · rw [h] at hi; cases hi; exact .inr hb
  · rcases k2 with k | ⟨b, k, hb⟩
    · rw [k]; exact h2
    · exact .inr ⟨b, k, Nat.le_trans hz hb⟩
theorem mod_succ (v k : Nat) : v % 2 ^ (k + 1) = v % 2 ^ k + v / 2 ^ k % 2 * 2 ^ k := by
  rw [Nat.pow_succ, Nat.mod_mul, Nat.mul_comm (2 ^ k)]
theorem nats_snoc (bs : List Int) (z : Nat) : nats (bs ++ [(z : Int)]) = nats bs ++ [z] := by simp [nats]
set_option maxRecDepth 100000 in
set_option maxHeartbeats 2000000 in
theorem refWBits_yes (q : Nat) (o : Option Nat) (V L v n : Nat) (w : World) (h : RwAt w q o V L) (hv : v < 4294967296) (hn1 : 1 ≤ n) (hn2 : n ≤ 32) (hL : L ≤ 1099511627776) :
    Calls Try.prog 23 #[.pointer (some ⟨q, 0, none⟩), .int .u32 v, .int .i64 n] w fun e w' => e = .returned (.tuple #[]) ∧ ∃ o', RwAt w' q o' (V + v % 2 ^ n * 2 ^ L) (L + n) ∧ Ext w q o o' w' := by
  have H := Lib.hid h
  clear h
  have g1 : decide ((n : Int) < 1) = false := by simp; omega
  have g2 : decide (32 < (n : Int)) = false := by simp; omega
  obtain ⟨i0, hi, hz0, hz1, hz2⟩ := info_parts Try.infoByte
  have HI := Lib.hid (And.intro hi (And.intro hz0 (And.intro hz1 hz2)))
  clear hi hz0 hz1 hz2
  go_enter Try.func23, Try.ntmps23
  go_wp2
  go_loopw [6] (fun i wr => ∃ (k : Nat) (o' : Option Nat), k ≤ n ∧ i = .int .i64 k ∧ RwAt wr q o' (V + v % 2 ^ k * 2 ^ L) (L + k) ∧ Ext w q o o' wr) (fun i _ => n - (intOf i).toNat)
  case atStart => exact ⟨0, o, by omega, rfl, by simpa [Nat.mod_one] using H.out, Ext.refl _ _ _⟩
  case round =>
    obtain ⟨k, o', hk, rfl, hr, hx⟩ := hrel
    by_cases hkn : k < n
    · have hlt := hr.lt
      obtain ⟨s, bs, h1, h2, h3, h4, h5, h6, h7⟩ := hr
      have hm := mod_succ v k
      have hvk : v / 2 ^ k ≤ v := Nat.div_le_self _ _
      obtain ⟨x, hxe⟩ : ∃ x, v / 2 ^ k = x := ⟨_, rfl⟩
      rw [hxe] at hm hvk
      have hiv : (v : Int) / 2 ^ k = (x : Int) := by rw [← hxe]; simp
      have e1 : bits BinOp.and IntKind.u32 (x : Int) 1 = ((x % 2 : Nat) : Int) := by rw [show (1 : Int) = ((1 : Nat) : Int) from rfl, u32_and_nat _ _ (by omega) (by omega), nat_mask1]
      obtain ⟨b, hbe⟩ : ∃ b, x % 2 = b := ⟨_, rfl⟩
      have hb2 : b < 2 := by omega
      rw [hbe] at hm e1
      have e1' : bits BinOp.and IntKind.u32 ((v : Int) / 2 ^ k) 1 = (b : Int) := by rw [hiv]; exact e1
      have e2 : IntKind.u8.wrap (b : Int) = (b : Int) := by simp [IntKind.wrap, IntKind.signed, IntKind.bits]; omega
      obtain ⟨c0, f0⟩ := blk1 h1
      have HB := Lib.hid h1
      have H3 := Lib.hid h3
      have H6 := Lib.hid h6
      have hbl : bs.length ≤ 1099511627776 + 32 := by omega
      have H7 := Lib.hid h7
      have HM := Lib.hid hm
      have hoa := h2.kept ((Kept.refl (fun _ => False) wr).alloc (.cells #[.int .u8 (b : Int)] 5)) (fun _ _ => id)
      obtain ⟨a, cap, rfl, -⟩ := h2.shape
      have HOA := Lib.hid hoa
      clear h1 h2 h3 h6 h7 hm hxe hbe e1 hoa hiv
      go_wp2_with (first
        | (at_builtin; refine wpList_appInts rfl (.tmp 22) (.tmp 29) 29 rfl 5 .u8 i0 (.int .u8 0) 1 Try.underlying29 HI.out.1 HI.out.2.1 HI.out.2.2.1 HI.out.2.2.2 rfl (.slice a bs.length cap) bs rfl HOA.out (some ⟨wr.heap.size, 0, none⟩) 1 1 [(b : Int)] rfl (fun h => by cases h) (slAt_one wr _ 5) (by omega) (by simp [maxLen]; omega) ?_; intro v5 w5 ho5 hk5 hpr5; have hb5 : w5.heap[q]? = some (.cells #[.slice a bs.length cap] 49 (0, 0)) := hk5.blk (by exact blk_alloc HB.out _) (fun hp => h4 (by rw [← H3.out]; exact hp)); obtain ⟨d0, e0⟩ := blk1 hb5; clear hb5 c0 f0; obtain ⟨a5, cap5, hv5, -⟩ := ho5.shape; rw [List.length_append, List.length_singleton] at hv5; subst hv5; have HO5 := Lib.hid ho5; have HP5 := Lib.hid hpr5; clear ho5 hpr5))
      obtain ⟨g1, g2, g3, g4, g5⟩ := app_field (i := 0) HB.out H3.out h4 ((Kept.refl (fun _ => False) wr).alloc _) HO5.out hk5 HP5.out
      go_roundw
      case rel =>
        refine ⟨k + 1, _, by omega, by go_num, ⟨_, bs ++ [(b : Int)], by simpa using g1, g2, rfl, g3, ?_, ?_, ?_⟩, hx.trans ⟨g4, g5⟩⟩
        · intro y hy
          rcases List.mem_append.1 hy with h | h
          · exact h5 y h
          · simp at h; omega
        · rw [nats_snoc, bval_append, H6.out, HM.out, nats_length, H7.out, Nat.add_mul, Nat.mul_assoc, ← Nat.pow_add, Nat.add_comm k L]; omega
        · have := H7.out; simp; omega
      case measure => simp [intOf]; omega
    · obtain rfl : k = n := by omega
      go_wp2
      go_end0
      exact ⟨rfl, o', hr, hx⟩
set_option maxRecDepth 100000 in
set_option maxHeartbeats 2000000 in
theorem refWBits_any (q : Nat) (o : Option Nat) (V L v : Nat) (n : Int) (w : World) (h : RwAt w q o V L) (hv : v < 4294967296) (hL : L ≤ 1099511627776) :
    Calls Try.prog 23 #[.pointer (some ⟨q, 0, none⟩), .int .u32 v, .int .i64 n] w fun e w' => e = .returned (.tuple #[]) ∧ ∃ o', RwAt w' q o' (V + v % 2 ^ widI n * 2 ^ L) (L + widI n) ∧ Ext w q o o' w' := by
  by_cases hn : 1 ≤ n ∧ n ≤ 32
  · obtain ⟨k, rfl⟩ : ∃ k : Nat, n = k := ⟨n.toNat, by omega⟩
    have e : widI k = k := by unfold widI; rw [if_pos hn]; omega
    rw [e]
    exact refWBits_yes q o V L v k w h hv (by omega) (by omega) hL
  · have e : widI n = 0 := by unfold widI; rw [if_neg hn]
    have h0 : RwAt w q o (V + v % 2 ^ 0 * 2 ^ L) (L + 0) := by simpa [Nat.mod_one] using h
    rw [e]
    have HH := Lib.hid h0
    clear h h0
    by_cases h1 : n < 1
    · have g1 : decide (n < 1) = true := by simp; omega
      go_enter Try.func23, Try.ntmps23
      go_wp2
      exact bodyPost_ret (results_none rfl _ _ _) rfl ⟨rfl, o, HH.out, Ext.refl _ _ _⟩
    · have g1 : decide (n < 1) = false := by simp; omega
      have g2 : decide (32 < n) = true := by simp; omega
      go_enter Try.func23, Try.ntmps23
      go_wp2
      exact bodyPost_ret (results_none rfl _ _ _) rfl ⟨rfl, o, HH.out, Ext.refl _ _ _⟩
set_option maxRecDepth 100000 in
set_option maxHeartbeats 2000000 in
theorem refWAlign_any (q : Nat) (o : Option Nat) (V L : Nat) (w : World) (h : RwAt w q o V L) (hL : L ≤ 1099511627776) :
    Calls Try.prog 25 #[.pointer (some ⟨q, 0, none⟩)] w fun e w' => e = .returned (.tuple #[]) ∧ ∃ o', RwAt w' q o' V (8 * ((L + 7) / 8)) ∧ Ext w q o o' w' := by
  have H := Lib.hid h
  clear h
  obtain ⟨i0, hi, hz0, hz1, hz2⟩ := info_parts Try.infoByte
  have HI := Lib.hid (And.intro hi (And.intro hz0 (And.intro hz1 hz2)))
  clear hi hz0 hz1 hz2
  go_enter Try.func25, Try.ntmps25
  go_wp2
  go_loopg [] (8 * ((L + 7) / 8) - L) (fun g wr => ∃ (k : Nat) (o' : Option Nat), g = 8 * ((L + 7) / 8) - L - k ∧ L + k ≤ 8 * ((L + 7) / 8) ∧ RwAt wr q o' V (L + k) ∧ Ext w q o o' wr)
  case atStart => exact ⟨0, o, rfl, by omega, H.out, Ext.refl _ _ _⟩
  case round =>
    obtain ⟨k, o', rfl, hk, hr, hx⟩ := hrel
    have hlt := hr.lt
    have HR := Lib.hid hr
    obtain ⟨s, bs, h1, h2, h3, h4, h5, h6, h7⟩ := hr
    obtain ⟨c0, f0⟩ := blk1 h1
    have HB := Lib.hid h1
    have H3 := Lib.hid h3
    have H6 := Lib.hid h6
    have hbl : bs.length ≤ 1099511627776 + 32 := by omega
    have hb8 : bs.length = L + k := h7
    have hoa := h2.kept ((Kept.refl (fun _ => False) wr).alloc (.cells #[.int .u8 0] 5)) (fun _ _ => id)
    obtain ⟨a, cap, rfl, -⟩ := h2.shape
    have HOA := Lib.hid hoa
    obtain ⟨m, hm⟩ : ∃ m, bs.length = m := ⟨_, rfl⟩
    have hmm : m = L + k := by omega
    clear h1 h2 h3 h6 h7 hoa
    by_cases h8 : (L + k) % 8 = 0
    · have he : L + k = 8 * ((L + 7) / 8) := by omega
      have d8 : (bs.length : Int) % 8 = 0 := by omega
      have HE := Lib.hid he
      clear hb8 hm hmm he
      go_wp2
      go_end0
      exact ⟨rfl, o', by rw [← HE.out]; exact HR.out, hx⟩
    · have d8 : ¬ (bs.length : Int) % 8 = 0 := by omega
      have hk2 : L + (k + 1) ≤ 8 * ((L + 7) / 8) := by omega
      have H7 := Lib.hid hb8
      clear hb8 hm hmm
      go_wp2_with (first
        | (at_builtin; refine wpList_appInts rfl (.tmp 13) (.tmp 14) 29 rfl 5 .u8 i0 (.int .u8 0) 1 Try.underlying29 HI.out.1 HI.out.2.1 HI.out.2.2.1 HI.out.2.2.2 rfl (.slice a bs.length cap) bs rfl HOA.out (some ⟨wr.heap.size, 0, none⟩) 1 1 [0] rfl (fun h => by cases h) (slAt_one wr _ 5) (by omega) (by simp [maxLen]; omega) ?_; intro v5 w5 ho5 hk5 hpr5; have hb5 : w5.heap[q]? = some (.cells #[.slice a bs.length cap] 49 (0, 0)) := hk5.blk (by exact blk_alloc HB.out _) (fun hp => h4 (by rw [← H3.out]; exact hp)); obtain ⟨d0, e0⟩ := blk1 hb5; clear hb5 c0 f0; obtain ⟨a5, cap5, hv5, -⟩ := ho5.shape; rw [List.length_append, List.length_singleton] at hv5; subst hv5; have HO5 := Lib.hid ho5; have HP5 := Lib.hid hpr5; clear ho5 hpr5))
      obtain ⟨g1, g2, g3, g4, g5⟩ := app_field (i := 0) HB.out H3.out h4 ((Kept.refl (fun _ => False) wr).alloc _) HO5.out hk5 HP5.out
      go_roundg (8 * ((L + 7) / 8) - L - (k + 1))
      case rel =>
        refine ⟨k + 1, _, rfl, hk2, ⟨_, bs ++ [0], by simpa using g1, g2, rfl, g3, ?_, ?_, ?_⟩, hx.trans ⟨g4, g5⟩⟩
        · intro y hy
          rcases List.mem_append.1 hy with h | h
          · exact h5 y h
          · simp at h; omega
        · have e := nats_snoc bs 0
          rw [show ((0 : Nat) : Int) = 0 from rfl] at e
          rw [e, bval_append, H6.out]; omega
        · have := H7.out; simp; omega
      case measure => omega
end Go.Proofs.Ytocahkmfopbdlaa
