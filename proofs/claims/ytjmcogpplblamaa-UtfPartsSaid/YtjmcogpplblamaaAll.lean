/- All bytes told; lists held against one another; the line characters. -/
import Derived.Test.YtjmcogpplblamaaPut
import Derived.Test.YtjmcogpplblamaaWidth
import Derived.Deep.QuietTactic
import Derived.BigQuiet
namespace Go.Proofs.Ytjmcogpplblamaa
open Go.RowKit Pl
set_option linter.unusedVariables false
def Byt (xs : List Int) : Prop := ∀ n ∈ xs, 0 ≤ n ∧ n < 256
def nats (xs : List Int) : List Nat := xs.map Int.toNat
theorem Byt.at {xs : List Int} (h : Byt xs) {k : Nat} (hk : k < xs.length) : ∃ z : Nat, z < 256 ∧ xs.getD k 0 = (z : Int) ∧ (nats xs)[k]? = some z := by
  have h1 := h (xs[k]) (List.getElem_mem hk)
  refine ⟨(xs[k]).toNat, by omega, ?_, by simp [nats, hk]⟩
  simp [hk]
  omega
theorem run_snoc (s : St) (l : List Nat) (k z : Nat) (h : l[k]? = some z) : run s (l.take (k + 1)) = ((put (run s (l.take k)).1 z).1, (run s (l.take k)).2 ++ (put (run s (l.take k)).1 z).2) := by
  obtain ⟨hk, he⟩ := List.getElem?_eq_some_iff.1 h
  rw [List.take_succ_eq_append_getElem hk, run_append, he]
  simp [run]
/-- Numbers of characters. -/
def Chs (xs : List Int) : Prop := ∀ n ∈ xs, 0 ≤ n ∧ n < 2097152
theorem Chs.append {a b : List Int} (h : Chs a) (k : Chs b) : Chs (a ++ b) := fun n hn => (List.mem_append.1 hn).elim (h n) (k n)
theorem first_chs (b : Nat) (hb : b < 256) : Chs (first b).2 := by
  unfold first
  intro n hn
  split at hn
  · simp at hn; omega
  · split at hn
    · cases hn
    · split at hn
      · cases hn
      · split at hn
        · cases hn
        · simp [bad] at hn; omega
theorem put_chs {s : St} (h : OkS s) (b : Nat) (hb : b < 256) : Chs (put s b).2 := by
  have hf := first_chs b hb
  by_cases h0 : s.left = 0
  · unfold put; rw [if_pos h0]; exact hf
  · have hv := put_v h h0 b
    intro n hn
    unfold put at hn
    rw [if_neg h0] at hn
    split at hn
    · rcases List.mem_cons.1 hn with h | h
      · rw [h]; decide
      · exact hf n h
    · split at hn
      · simp at hn; omega
      · cases hn
theorem fin_chs (s : St) : Chs (fin s) := by
  intro n hn
  unfold fin at hn
  split at hn
  · cases hn
  · simp [bad] at hn; omega
theorem run_chs {s : St} (h : OkS s) : ∀ (l : List Nat), (∀ b ∈ l, b < 256) → Chs (run s l).2
  | [], _ => fun n hn => by cases hn
  | b :: l, hb => (put_chs h b (hb b (by simp))).append (run_chs (put_ok h b) l (fun x hx => hb x (by simp [hx])))
theorem nats_lt {xs : List Int} (h : Byt xs) : ∀ b ∈ nats xs, b < 256 := by
  intro b hb
  simp only [nats, List.mem_map] at hb
  obtain ⟨a, ha, rfl⟩ := hb
  have := h a ha
  omega
theorem allL_chs {xs : List Int} (h : Byt xs) : Chs (allL (nats xs)) := (run_chs ok0 _ (nats_lt h)).append (fin_chs _)
theorem Own.retag {k : IntKind} {e : TypeId} {w : World} {v : Value} {xs ys : List Int} (h : Own k e w v xs) (hy : ys = xs) : Own k e w v ys := hy ▸ h
def AllPost (k : IntKind) (e : TypeId) (res : List Int) (w : World) (en : Ending) (w' : World) : Prop := ∃ v, en = .returned v ∧ Own k e w' v res ∧ Kept (fun _ => False) w w' ∧ ∀ b, v.ownBlock = some b → w.heap.size ≤ b
/-- What is left by an append of what a call told, onto a list that lies elsewhere. -/
theorem app_step {w wr w3 w5 : World} {p : Nat} {v v5 : Value} (hkr : Kept (fun _ => False) w wr) (hk3 : Kept (· = p) wr w3) (hpw : w.heap.size ≤ p) (hpl : p < w3.heap.size) (hv : ∀ b, v.ownBlock = some b → w.heap.size ≤ b ∧ b ≠ p)
    (hk5 : Kept (fun k => v.ownBlock = some k) w3 w5) (hpr : v5.ownBlock = v.ownBlock ∨ v5.ownBlock = some w3.heap.size) :
    Kept (fun _ => False) w w5 ∧ ∀ b, v5.ownBlock = some b → w.heap.size ≤ b ∧ b ≠ p := by
  have h1 : Kept (fun _ => False) w w3 := hkr.trans (hk3.mono (fun i _ h => Or.inr (by have : i = p := h; omega)))
  have hz := h1.size
  refine ⟨h1.trans (hk5.mono (fun i _ h => Or.inr (hv i h).1)), fun b hb => ?_⟩
  rcases hpr with h | h
  · exact hv b (h ▸ hb)
  · rw [h] at hb; have h9 := Option.some.inj hb; omega
set_option maxRecDepth 100000 in
set_option maxHeartbeats 1000000 in
theorem new_any (w : World) : Calls Try.prog 9 #[] w fun en w' => en = .returned (.pointer (some ⟨w.heap.size, 0, none⟩)) ∧ w' = w.alloc (.cells #[.int .i32 0, .int .i64 0, .int .u8 0, .int .u8 0] 50) := by
  go_enter Try.func9, Try.ntmps9
  go_wp2
  go_ret
  exact ⟨rfl, rfl⟩
set_option maxRecDepth 100000 in
set_option maxHeartbeats 4000000 in
theorem all_any (a : Option Addr) (len cap : Nat) (xs : List Int) (w : World) (hs : SlAt .u8 w a len xs) (hb : Byt xs) (hl : len ≤ 1000000) :
    Calls Try.prog 16 #[.slice a len cap] w (AllPost .i32 21 (allL (nats xs)) w) := by
  have hxl := hs.1
  have HS := Lib.hid hs
  obtain ⟨i0, hi, hz0, hz1, hz2⟩ := info_parts Try.infoI32
  have HI := Lib.hid (And.intro hi (And.intro hz0 (And.intro hz1 hz2)))
  clear hi hz0 hz1 hz2 hs
  have hd0 : DecAt (w.alloc (.cells #[.int .i32 0, .int .i64 0, .int .u8 0, .int .u8 0] 50)) w.heap.size s0 := ⟨0, 0, 0, blk_new _ _, fun h => absurd h (by simp [s0]), ok0⟩
  have HD0 := Lib.hid hd0
  obtain ⟨p, hp⟩ : ∃ p, w.heap.size = p := ⟨_, rfl⟩
  rw [hp] at HD0
  have HP := Lib.hid hp
  clear hd0 hp
  go_enter Try.func16, Try.ntmps16
  go_wp2_with fail
  refine (new_any _).mono ?_
  rintro e w1 ⟨rfl, rfl⟩
  go_wp2_with fail
  rw [HP.out]
  go_loopw [4, 10] (fun v i wr => ∃ k : Nat, k ≤ len ∧ i = .int .i64 k ∧ Own .i32 21 wr v (run s0 ((nats xs).take k)).2 ∧ DecAt wr p (run s0 ((nats xs).take k)).1 ∧ (∀ b, v.ownBlock = some b → w.heap.size ≤ b ∧ b ≠ p) ∧ Kept (fun _ => False) w wr) (fun _ i _ => len - (intOf i).toNat)
  case atStart => exact ⟨0, by omega, rfl, Own.nil _ _ _, HD0.out, (fun b h => by cases h), (Kept.refl _ _).alloc _⟩
  case round =>
    rename_i vv _
    obtain ⟨k, hk, rfl, ho, hd, hf, hkr⟩ := hrel
    have HO := Lib.hid ho
    have HD := Lib.hid hd
    have HF := Lib.hid hf
    obtain ⟨a1, cp1, hvv, -⟩ := ho.shape
    subst hvv
    have hrl := run_len s0 ((nats xs).take k)
    have hrk : ((nats xs).take k).length ≤ k := List.length_take_le _ _
    have hpw : w.heap.size ≤ p := by rw [HP.out]; exact Nat.le_refl _
    clear ho hd hf
    by_cases hkl : k < len
    · obtain ⟨z, hz, hzg, hzn⟩ := hb.at (k := k) (by omega)
      obtain ⟨b, off, rfl, hc⟩ := HS.out.2.resolve_left (by omega)
      have hcell := hkr.cell (hc k hkl) id
      rw [hzg] at hcell
      have hsn := run_snoc s0 (nats xs) k z hzn
      obtain ⟨s, hs⟩ : ∃ s, (run s0 ((nats xs).take k)).1 = s := ⟨_, rfl⟩
      obtain ⟨out, hout⟩ : ∃ s, (run s0 ((nats xs).take k)).2 = s := ⟨_, rfl⟩
      rw [hs, hout] at hsn
      rw [hs] at HD
      rw [hout] at HO HF hrl ⊢
      have hpl := put_len s z
      have HSN := Lib.hid hsn
      clear hsn hs hout hzg hzn hc
      have hk9 : k ≤ 1000000 := by omega
      go_wp2_with (first
        | (go_at_call 13; refine (put_any p z s _ HD.out hz).mono ?_; rintro en w3 ⟨v3, rfl, hd3, ho3, hk3, hf3⟩; obtain ⟨a3, cp3, rfl, hs3, -, -, hn3, -⟩ := ho3.shape; have HS3 := Lib.hid hs3; have HN3 := Lib.hid hn3; have HD3 := Lib.hid hd3; have HL3 := Lib.hid (HO.out.kept hk3 (fun b' hb' hh => (HF.out b' hb').2 hh)); have hpl3 := hd3.lt; clear ho3 hs3 hn3 hd3 hf3)
        | (at_builtin; refine wpList_appInts rfl (.tmp 14) (.tmp 17) 31 rfl 21 .i32 i0 (.int .i32 0) 4 Try.underlying31 HI.out.1 HI.out.2.1 HI.out.2.2.1 HI.out.2.2.2 rfl (.slice a1 out.length cp1) out rfl HL3.out a3 (put s z).2.length cp3 (put s z).2 rfl HN3.out HS3.out (by omega) (by simp [maxLen]; omega) ?_; intro v5 w5 ho5 hk5 hpr5; have HO5 := Lib.hid ho5; have HP5 := Lib.hid hpr5; clear ho5 hpr5))
      obtain ⟨q1, q2⟩ := app_step hkr hk3 hpw hpl3 HF.out hk5 HP5.out
      go_roundw
      case rel =>
        refine ⟨k + 1, by omega, by go_num, HO5.out.retag (by rw [HSN.out]), ?_, q2, q1⟩
        rw [HSN.out]
        exact HD3.out.kept hk5 (fun hh => (HF.out p hh).2 rfl)
      case measure => simp [intOf]; omega
    · obtain rfl : k = len := by omega
      have htk : (nats xs).take k = nats xs := List.take_of_length_le (by simp [nats]; omega)
      rw [htk] at HO HD HF hrl hrk ⊢
      have hall : allL (nats xs) = (run s0 (nats xs)).2 ++ fin (run s0 (nats xs)).1 := rfl
      obtain ⟨s, hs⟩ : ∃ s, (run s0 (nats xs)).1 = s := ⟨_, rfl⟩
      obtain ⟨out, hout⟩ : ∃ s, (run s0 (nats xs)).2 = s := ⟨_, rfl⟩
      rw [hs, hout] at hall
      rw [hs] at HD
      rw [hout] at HO HF hrl ⊢
      have hpl := fin_len s
      have HALL := Lib.hid hall
      clear hall hs hout htk
      go_wp2_with (first
        | (go_at_call 11; refine (fin_any p s _ HD.out).mono ?_; rintro en w3 ⟨v3, rfl, hd3, ho3, hk3, hf3⟩; obtain ⟨a3, cp3, rfl, hs3, -, -, hn3, -⟩ := ho3.shape; have HS3 := Lib.hid hs3; have HN3 := Lib.hid hn3; have HL3 := Lib.hid (HO.out.kept hk3 (fun b' hb' hh => (HF.out b' hb').2 hh)); have hpl3 := hd3.lt; clear ho3 hs3 hn3 hd3 hf3)
        | (at_builtin; refine wpList_appInts rfl (.tmp 20) (.tmp 22) 31 rfl 21 .i32 i0 (.int .i32 0) 4 Try.underlying31 HI.out.1 HI.out.2.1 HI.out.2.2.1 HI.out.2.2.2 rfl (.slice a1 out.length cp1) out rfl HL3.out a3 (fin s).length cp3 (fin s) rfl HN3.out HS3.out (by omega) (by simp [maxLen]; omega) ?_; intro v5 w5 ho5 hk5 hpr5; have HO5 := Lib.hid ho5; have HP5 := Lib.hid hpr5; clear ho5 hpr5))
      obtain ⟨q1, q2⟩ := app_step hkr hk3 hpw hpl3 HF.out hk5 HP5.out
      go_ret
      exact ⟨_, rfl, HO5.out.retag HALL.out, q1, fun b hb => (q2 b hb).1⟩
set_option maxRecDepth 100000 in
set_option maxHeartbeats 4000000 in
theorem rall_any (a : Option Addr) (len cap : Nat) (xs : List Int) (w : World) (hs : SlAt .u8 w a len xs) (hb : Byt xs) (hl : len ≤ 1000000) :
    Calls Try.prog 17 #[.slice a len cap] w (AllPost .i64 3 (allL (nats xs)) w) := by
  have hxl := hs.1
  have HS := Lib.hid hs
  obtain ⟨i0, hi, hz0, hz1, hz2⟩ := info_parts Try.infoInt
  have HI := Lib.hid (And.intro hi (And.intro hz0 (And.intro hz1 hz2)))
  clear hi hz0 hz1 hz2 hs
  have hd0 : RefAt (w.alloc (.cells #[.int .i64 0, .int .i64 0, .int .u8 0, .int .u8 0] 29)) w.heap.size s0 := ⟨0, 0, 0, blk_new _ _, fun h => absurd h (by simp [s0]), ok0⟩
  have HD0 := Lib.hid hd0
  obtain ⟨p, hp⟩ : ∃ p, w.heap.size = p := ⟨_, rfl⟩
  rw [hp] at HD0
  have HP := Lib.hid hp
  clear hd0 hp
  go_enter Try.func17, Try.ntmps17
  go_wp2_with fail
  rw [HP.out]
  go_loopw [4, 5] (fun v i wr => ∃ k : Nat, k ≤ len ∧ i = .int .i64 k ∧ Own .i64 3 wr v (run s0 ((nats xs).take k)).2 ∧ RefAt wr p (run s0 ((nats xs).take k)).1 ∧ (∀ b, v.ownBlock = some b → w.heap.size ≤ b ∧ b ≠ p) ∧ Kept (fun _ => False) w wr) (fun _ i _ => len - (intOf i).toNat)
  case atStart => exact ⟨0, by omega, rfl, Own.nil _ _ _, HD0.out, (fun b h => by cases h), (Kept.refl _ _).alloc _⟩
  case round =>
    rename_i vv _
    obtain ⟨k, hk, rfl, ho, hd, hf, hkr⟩ := hrel
    have HO := Lib.hid ho
    have HD := Lib.hid hd
    have HF := Lib.hid hf
    obtain ⟨a1, cp1, hvv, -⟩ := ho.shape
    subst hvv
    have hrl := run_len s0 ((nats xs).take k)
    have hrk : ((nats xs).take k).length ≤ k := List.length_take_le _ _
    have hpw : w.heap.size ≤ p := by rw [HP.out]; exact Nat.le_refl _
    clear ho hd hf
    by_cases hkl : k < len
    · obtain ⟨z, hz, hzg, hzn⟩ := hb.at (k := k) (by omega)
      obtain ⟨b, off, rfl, hc⟩ := HS.out.2.resolve_left (by omega)
      have hcell := hkr.cell (hc k hkl) id
      rw [hzg] at hcell
      have hsn := run_snoc s0 (nats xs) k z hzn
      obtain ⟨s, hs⟩ : ∃ s, (run s0 ((nats xs).take k)).1 = s := ⟨_, rfl⟩
      obtain ⟨out, hout⟩ : ∃ s, (run s0 ((nats xs).take k)).2 = s := ⟨_, rfl⟩
      rw [hs, hout] at hsn
      rw [hs] at HD
      rw [hout] at HO HF hrl ⊢
      have hpl := put_len s z
      have HSN := Lib.hid hsn
      clear hsn hs hout hzg hzn hc
      have hk9 : k ≤ 1000000 := by omega
      go_wp2_with (first
        | (go_at_call 14; refine (rput_any p z s _ HD.out hz).mono ?_; rintro en w3 ⟨v3, rfl, hd3, ho3, hk3, hf3⟩; obtain ⟨a3, cp3, rfl, hs3, -, -, hn3, -⟩ := ho3.shape; have HS3 := Lib.hid hs3; have HN3 := Lib.hid hn3; have HD3 := Lib.hid hd3; have HL3 := Lib.hid (HO.out.kept hk3 (fun b' hb' hh => (HF.out b' hb').2 hh)); have hpl3 := hd3.lt; clear ho3 hs3 hn3 hd3 hf3)
        | (at_builtin; refine wpList_appInts rfl (.tmp 14) (.tmp 20) 23 rfl 3 .i64 i0 (.int .i64 0) 8 Try.underlying23 HI.out.1 HI.out.2.1 HI.out.2.2.1 HI.out.2.2.2 rfl (.slice a1 out.length cp1) out rfl HL3.out a3 (put s z).2.length cp3 (put s z).2 rfl HN3.out HS3.out (by omega) (by simp [maxLen]; omega) ?_; intro v5 w5 ho5 hk5 hpr5; have HO5 := Lib.hid ho5; have HP5 := Lib.hid hpr5; clear ho5 hpr5))
      obtain ⟨q1, q2⟩ := app_step hkr hk3 hpw hpl3 HF.out hk5 HP5.out
      go_roundw
      case rel =>
        refine ⟨k + 1, by omega, by go_num, HO5.out.retag (by rw [HSN.out]), ?_, q2, q1⟩
        rw [HSN.out]
        exact HD3.out.kept hk5 (fun hh => (HF.out p hh).2 rfl)
      case measure => simp [intOf]; omega
    · obtain rfl : k = len := by omega
      have htk : (nats xs).take k = nats xs := List.take_of_length_le (by simp [nats]; omega)
      rw [htk] at HO HD HF hrl hrk ⊢
      have hall : allL (nats xs) = (run s0 (nats xs)).2 ++ fin (run s0 (nats xs)).1 := rfl
      obtain ⟨s, hs⟩ : ∃ s, (run s0 (nats xs)).1 = s := ⟨_, rfl⟩
      obtain ⟨out, hout⟩ : ∃ s, (run s0 (nats xs)).2 = s := ⟨_, rfl⟩
      rw [hs, hout] at hall
      rw [hs] at HD
      rw [hout] at HO HF hrl ⊢
      have hpl := fin_len s
      have HALL := Lib.hid hall
      clear hall hs hout htk
      go_wp2_with (first
        | (go_at_call 12; refine (rfin_any p s _ HD.out).mono ?_; rintro en w3 ⟨v3, rfl, hd3, ho3, hk3, hf3⟩; obtain ⟨a3, cp3, rfl, hs3, -, -, hn3, -⟩ := ho3.shape; have HS3 := Lib.hid hs3; have HN3 := Lib.hid hn3; have HL3 := Lib.hid (HO.out.kept hk3 (fun b' hb' hh => (HF.out b' hb').2 hh)); have hpl3 := hd3.lt; clear ho3 hs3 hn3 hd3 hf3)
        | (at_builtin; refine wpList_appInts rfl (.tmp 22) (.tmp 24) 23 rfl 3 .i64 i0 (.int .i64 0) 8 Try.underlying23 HI.out.1 HI.out.2.1 HI.out.2.2.1 HI.out.2.2.2 rfl (.slice a1 out.length cp1) out rfl HL3.out a3 (fin s).length cp3 (fin s) rfl HN3.out HS3.out (by omega) (by simp [maxLen]; omega) ?_; intro v5 w5 ho5 hk5 hpr5; have HO5 := Lib.hid ho5; have HP5 := Lib.hid hpr5; clear ho5 hpr5))
      obtain ⟨q1, q2⟩ := app_step hkr hk3 hpw hpl3 HF.out hk5 HP5.out
      go_ret
      exact ⟨_, rfl, HO5.out.retag HALL.out, q1, fun b hb => (q2 b hb).1⟩
set_option maxRecDepth 100000 in
set_option maxHeartbeats 4000000 in
theorem same_any (a1 a2 : Option Addr) (n c1 c2 : Nat) (xs : List Int) (w : World) (h1 : SlAt .i32 w a1 n xs) (h2 : SlAt .i64 w a2 n xs) (hx : Chs xs) (hn : n ≤ 9223372036854775807) :
    Calls Try.prog 10 #[.slice a1 n c1, .slice a2 n c2] w fun en w' => en = .returned (.bool true) ∧ ∃ m, w' = w.drewN m := by
  have H1 := Lib.hid h1
  have H2 := Lib.hid h2
  clear h1 h2
  go_enter Try.func10, Try.ntmps10
  go_wp2
  go_loopw [5] (fun i wr => ∃ k m : Nat, k ≤ n ∧ i = .int .i64 k ∧ wr = w.drewN m) (fun i _ => n - (intOf i).toNat)
  case atStart => exact ⟨0, 0, by omega, rfl, (World.drewN_zero _).symm⟩
  case round =>
    obtain ⟨k, m, hk, rfl, rfl⟩ := hrel
    by_cases hkl : k < n
    · obtain ⟨b1, o1, rfl, hc1⟩ := H1.out.2.resolve_left (by omega)
      obtain ⟨b2, o2, rfl, hc2⟩ := H2.out.2.resolve_left (by omega)
      have x1 := hc1 k hkl
      have x2 := hc2 k hkl
      have hzb := hx (xs.getD k 0) (by rw [List.getD_eq_getElem?_getD, List.getElem?_eq_getElem (by rw [H1.out.1]; exact hkl)]; exact List.getElem_mem _)
      obtain ⟨z, hz⟩ : ∃ z, xs.getD k 0 = z := ⟨_, rfl⟩
      rw [hz] at x1 x2 hzb
      have s3 : IntKind.i64.wrap z = z := IntWalk.i64_in _ (by omega)
      have s1 : (0 : Int) ≤ (k : Int) := by omega
      have s2 : (k : Int) < (n : Int) := by omega
      clear hc1 hc2 hz
      go_wp2
      go_quiet (fail)
      go_wp2
      go_roundw
      case rel => exact ⟨k + 1, _, by omega, by go_num, rfl⟩
      case measure => simp [intOf]; omega
    · obtain rfl : k = n := by omega
      go_wp2
      go_ret
      exact ⟨rfl, m, rfl⟩
end Go.Proofs.Ytjmcogpplblamaa
