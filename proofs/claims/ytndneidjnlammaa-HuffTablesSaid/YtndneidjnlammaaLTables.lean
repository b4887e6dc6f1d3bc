/- The law HuffTables. -/
import Derived.Test.YtndneidjnlammaaRReadT
namespace Go.Proofs.Ytndneidjnlammaa
open Go.RowKit Go.ChangeShapes Go.WideShapes Pl
set_option linter.unusedVariables false
set_option linter.unusedSimpArgs false
attribute [local go_sem] growOp growUpon sameUpon
set_option maxRecDepth 100000 in
theorem new_big (a0 : Option Addr) (len cap : Nat) (W : World) (hl : 320 < len) :
    Calls Try.prog 8 #[.slice a0 len cap] W fun e w' => e = .returned (.tuple #[.pointer none, .int .i64 1]) ∧ w' = W := by
  have g0 : decide ((320 : Int) < (len : Int)) = true := decide_eq_true (by omega)
  have g0' : decide (320 < len) = true := decide_eq_true hl
  go_enter Try.func8, Try.ntmps8
  go_wp2
  exact bodyPost_ret (v := .tuple #[.pointer none, .int .i64 1]) (by simp [results, Try.results8, go_sem]) rfl ⟨rfl, rfl⟩
set_option maxRecDepth 100000 in
theorem rnew_big (a0 : Option Addr) (len cap : Nat) (W : World) (hl : 320 < len) :
    Calls Try.prog 12 #[.slice a0 len cap] W fun e w' => e = .returned (.tuple #[.pointer none, .int .i64 1]) ∧ w' = W := by
  have g0 : decide ((320 : Int) < (len : Int)) = true := decide_eq_true (by omega)
  have g0' : decide (320 < len) = true := decide_eq_true hl
  go_enter Try.func12, Try.ntmps12
  go_wp2
  exact bodyPost_ret (v := .tuple #[.pointer none, .int .i64 1]) (by simp [results, Try.results12, go_sem]) rfl ⟨rfl, rfl⟩
theorem used_le (ls : List Nat) (bit : Nat → Nat) (avail : Nat) : (readV ls bit avail).used ≤ avail := by
  have key : ∀ f k c, k ≤ avail → (dec ls bit avail f k c).used ≤ avail := by
    intro f
    induction f with
    | zero => intro k c _; exact Nat.zero_le _
    | succ f ih =>
      intro k c hk
      rw [dec]
      split
      · exact Nat.zero_le _
      · split
        · exact Nat.zero_le _
        · split
          · show k + 1 ≤ avail; omega
          · exact ih _ _ (by omega)
  exact key 16 0 0 (Nat.zero_le _)
theorem err_rng (ls : List Nat) (bit : Nat → Nat) (avail : Nat) : (readV ls bit avail).err ≤ 3 := by
  have key : ∀ f k c, (dec ls bit avail f k c).err ≤ 3 := by
    intro f
    induction f with
    | zero => intro k c; exact Nat.le_refl _
    | succ f ih =>
      intro k c
      rw [dec]
      split
      · exact Nat.le_refl _
      · split
        · show 2 ≤ 3; omega
        · split
          · exact Nat.zero_le _
          · exact ih _ _
  exact key 16 0 0
set_option maxRecDepth 100000 in
set_option maxHeartbeats 16000000 in
theorem tables_go (a0 : Option Addr) (len cap : Nat) (ls : List Nat) (a1 : Option Addr) (n1 c1 : Nat) (bs : List Nat) (rs : Int) (W : World) (hs : SlAt .u8 W a0 len (ints ls)) (hb : ∀ c ∈ ls, c < 256) (hnil : a0 = none → len = 0 ∧ cap = 0)
    (hx : SlAt .u8 W a1 n1 (ints bs)) (hxb : ∀ c ∈ bs, c < 256) (hxnil : a1 = none → n1 = 0 ∧ c1 = 0) (hxl : ∀ b off, 0 < n1 → a1 = some ⟨b, off, none⟩ → b < W.heap.size) (hx1 : n1 ≤ c1) (hx2 : c1 ≤ 9223372036854775807) :
    Calls Try.prog 4 #[.slice a0 len cap, .slice a1 n1 c1, .int .i64 rs] W fun e w' => e = .returned (.bool true) ∧ Kept (fun _ => False) W w' := by
  have hll : ls.length = len := by rw [← hs.1, ints_length]
  have hbl : bs.length = n1 := by rw [← hx.1, ints_length]
  have H := Lib.hid (And.intro hs (And.intro hb (And.intro hll hnil)))
  have X := Lib.hid (And.intro hx (And.intro hxb (And.intro hbl (And.intro hxnil (And.intro hxl (And.intro hx1 hx2))))))
  clear hs hb hll hnil hx hxb hbl hxnil hxl hx1 hx2
  by_cases hlen5 : 500 < len
  · have g0 : decide ((500 : Int) < (len : Int)) = true := decide_eq_true (by omega)
    have g0' : decide (500 < len) = true := decide_eq_true (by omega)
    go_enter Try.func4, Try.ntmps4
    go_wp2_with fail
    refine (known_any W).mono ?_
    rintro e w1 ⟨rfl, hk1⟩
    go_wp2
    exact bodyPost_ret (v := .bool true) (by simp [results, Try.results4, go_sem]) rfl ⟨rfl, hk1⟩
  have g0 : decide ((500 : Int) < (len : Int)) = false := decide_eq_false (by omega)
  have g0' : decide (500 < len) = false := decide_eq_false (by omega)
  by_cases hn1 : 400 < n1
  · have g1 : decide ((400 : Int) < (n1 : Int)) = true := decide_eq_true (by omega)
    have g1' : decide (400 < n1) = true := decide_eq_true (by omega)
    go_enter Try.func4, Try.ntmps4
    go_wp2_with fail
    refine (known_any W).mono ?_
    rintro e w1 ⟨rfl, hk1⟩
    go_wp2
    exact bodyPost_ret (v := .bool true) (by simp [results, Try.results4, go_sem]) rfl ⟨rfl, hk1⟩
  have g1 : decide ((400 : Int) < (n1 : Int)) = false := decide_eq_false (by omega)
  have g1' : decide (400 < n1) = false := decide_eq_false (by omega)
  have hca := fun w' h => complete_any a0 len cap ls w' h H.out.2.1 (by omega)
  have hcb := fun w' h => rcomplete_any a0 len cap ls w' h H.out.2.1 (by omega)
  obtain ⟨C, hC⟩ : ∃ C, complete ls = C := ⟨_, rfl⟩
  rw [hC] at hca hcb
  have HCA := Lib.hid (And.intro hca hcb)
  clear hca hcb hC
  by_cases hlen : 320 < len
  · go_enter Try.func4, Try.ntmps4
    go_wp2_with fail
    refine (known_any W).mono ?_
    rintro e w1 ⟨rfl, hk1⟩
    have HK1 := Lib.hid hk1
    have HS := Lib.hid (H.out.1.kept hk1 (fun _ _ _ _ => id))
    clear hk1
    go_wp2_with fail
    refine (new_big a0 len cap w1 hlen).mono ?_
    rintro e w' ⟨rfl, rfl⟩
    go_wp2_with fail
    refine (rnew_big a0 len cap _ hlen).mono ?_
    rintro e w' ⟨rfl, rfl⟩
    go_wp2_with fail
    refine (HCA.out.1 _ HS.out).mono ?_
    rintro e w' ⟨rfl, rfl⟩
    go_wp2_with fail
    refine (HCA.out.2 _ HS.out).mono ?_
    rintro e w' ⟨rfl, rfl⟩
    go_wp2
    exact bodyPost_ret (v := .bool true) (by simp [results, Try.results4, go_sem]) rfl ⟨rfl, HK1.out⟩
  go_enter Try.func4, Try.ntmps4
  go_wp2_with fail
  refine (known_any W).mono ?_
  rintro e w1 ⟨rfl, hk1⟩
  have HK1 := Lib.hid hk1
  clear hk1
  go_wp2_with fail
  refine (new_any a0 len cap ls w1 (H.out.1.kept HK1.out (fun _ _ _ _ => id)) H.out.2.1 (by omega) H.out.2.2.2).mono ?_
  rintro e w2 (⟨h0, rfl, hk2⟩ | ⟨h0, a, sv, cv, la, lc, rfl, hT, hk2, -⟩)
  · obtain ⟨E, hE⟩ : ∃ E, newE ls = E := ⟨_, rfl⟩
    have HK2 := Lib.hid (And.intro (HK1.out.then hk2) (And.intro h0 hE))
    rw [hE]
    clear hk2 hE h0
    go_wp2_with fail
    refine (rnew_any a0 len cap ls w2 (H.out.1.kept HK2.out.1 (fun _ _ _ _ => id)) H.out.2.1 (by omega) H.out.2.2.2).mono ?_
    rintro e w3 (⟨-, rfl, hk3⟩ | ⟨h0, -⟩)
    · rw [HK2.out.2.2]
      have HK3 := Lib.hid (And.intro (HK2.out.1.then hk3) ((H.out.1.kept HK2.out.1 (fun _ _ _ _ => id)).kept hk3 (fun _ _ _ _ => id)))
      clear hk3
      go_wp2_with fail
      refine (HCA.out.1 _ HK3.out.2).mono ?_
      rintro e w' ⟨rfl, rfl⟩
      go_wp2_with fail
      refine (HCA.out.2 _ HK3.out.2).mono ?_
      rintro e w' ⟨rfl, rfl⟩
      go_wp2
      exact bodyPost_ret (v := .bool true) (by simp [results, Try.results4, go_sem]) rfl ⟨rfl, HK3.out.1⟩
    · exact absurd h0 HK2.out.2.1
  have hc15 : ∀ c ∈ ls, c ≤ 15 := fun c hc => by
    rcases Nat.lt_or_ge 15 c with h | h
    · have := any_of hc h; omega
    · exact h
  have hok : okTab ls = true := by
    have h1 := any_no hc15
    rw [h0] at h1
    cases ho : okTab ls with
    | true => rfl
    | false => rw [ho] at h1; cases h1
  have hr := okTab_le hok
  have HP := Lib.hid (And.intro hT (And.intro hc15 (And.intro hr hok)))
  have HK2 := Lib.hid (And.intro (HK1.out.then hk2) h0)
  clear hT hc15 hr hok hk2 h0
  go_wp2_with fail
  refine (rnew_any a0 len cap ls w2 (H.out.1.kept HK2.out.1 (fun _ _ _ _ => id)) H.out.2.1 (by omega) H.out.2.2.2).mono ?_
  rintro e w3 (⟨h0, -⟩ | ⟨-, ra, rcv, rla, rlc, rfl, hRO, hk3, -⟩)
  · exact absurd HK2.out.2 h0
  have HK3 := Lib.hid (And.intro (HK2.out.1.then hk3) ((H.out.1.kept HK2.out.1 (fun _ _ _ _ => id)).kept hk3 (fun _ _ _ _ => id)))
  have HQ := Lib.hid (And.intro (HP.out.1.grow hk3) hRO)
  clear hk3 hRO
  go_wp2_with fail
  refine (HCA.out.1 _ HK3.out.2).mono ?_
  rintro e w' ⟨rfl, hw⟩
  obtain rfl : w3 = w' := hw.symm
  go_wp2_with fail
  refine (HCA.out.2 _ HK3.out.2).mono ?_
  rintro e w' ⟨rfl, hw⟩
  obtain rfl : w3 = w' := hw.symm
  go_wp2
  go_loopg [11] (len + 3) (fun gg iv wr => ∃ k : Nat, len + 3 ≤ gg + k ∧ k ≤ len + 2 ∧ iv = .int .i64 ((k : Int) - 1) ∧ Kept (fun _ => False) w3 wr)
  case atStart => exact ⟨0, by omega, by omega, rfl, Kept.refl _ _⟩
  case round =>
    obtain ⟨k, hgg, hkl, rfl, hkr⟩ := hrel
    have HKR := Lib.hid hkr
    clear hkr
    obtain ⟨I, hI⟩ : ∃ I, (k : Int) - 1 = I := ⟨_, rfl⟩
    rw [hI]
    by_cases hk : k ≤ len + 1
    · have gi : decide (I ≤ (len : Int)) = true := decide_eq_true (by omega)
      have hcd := code_any wr a _ _ ls _ sv cv la lc (HQ.out.1.grow HKR.out) HP.out.2.1 (by rw [H.out.2.2.1]; omega) I
      have hrcd := fun w' (hk' : Kept (fun _ => False) wr w') => rcode_any w' ra ls rcv rla rlc ((HQ.out.2.grow HKR.out).grow hk') HP.out.2.1 (by rw [H.out.2.2.1]; omega) HP.out.2.2.1 I
      obtain ⟨c, hc⟩ : ∃ c, codeV ls I = c := ⟨_, rfl⟩
      obtain ⟨n, hn⟩ : ∃ n, lenV ls I = n := ⟨_, rfl⟩
      rw [hc, hn] at hcd
      rw [hc, hn] at hrcd
      have HCD := Lib.hid (And.intro hcd hrcd)
      have wi : IntKind.i64.wrap (I + 1) = I + 1 := IntWalk.i64_in _ (by omega)
      clear hcd hrcd hc hn
      go_wp2_with fail
      refine HCD.out.1.mono ?_
      rintro e w4 ⟨rfl, hk4⟩
      have HK4 := Lib.hid hk4
      clear hk4
      go_wp2_with fail
      refine (HCD.out.2 _ HK4.out).mono ?_
      rintro e w5 ⟨rfl, hk5⟩
      have HK5 := Lib.hid ((HKR.out.then HK4.out).then hk5)
      clear hk5
      go_wp2
      go_roundg (gk - 1)
      case rel => exact ⟨k + 1, by omega, by omega, by simp; omega, HK5.out⟩
      case measure => omega
    · have gi : decide (I ≤ (len : Int)) = false := decide_eq_false (by omega)
      have hkW := HK3.out.1.then HKR.out
      have hx' := X.out.1.kept hkW (fun _ _ _ _ => id)
      have hby : Bytes (ints bs) := by
        intro z hz
        obtain ⟨y, hy, rfl⟩ := List.mem_map.1 hz
        have := X.out.2.1 y hy
        omega
      have HNR := Lib.hid (newReader a1 n1 c1 (ints bs) wr hx' X.out.2.2.2.1 (by omega) hby)
      have HX := Lib.hid (And.intro hx' (And.intro hby hkW))
      clear hx' hby hkW hI
      go_wp2_with fail
      refine HNR.out.mono ?_
      rintro e w4 ⟨p, o, rfl, hrd, hp, ho, hk4⟩
      have hz4 := hk4.size
      have hzk := HKR.out.size
      have hzW := HK3.out.1.size
      have hpl : p < w4.heap.size := by obtain ⟨v, h1, -⟩ := hrd; exact lt_of_blk h1
      have hol : ∀ b, o = some b → b < w4.heap.size := by obtain ⟨v, h1, h2, h3, -⟩ := hrd; intro b hb; exact h2.lt b (h3.trans hb)
      obtain ⟨q, hq⟩ : ∃ q, w4.heap.size = q := ⟨_, rfl⟩
      obtain ⟨w5, hw5⟩ : ∃ w5, w4.alloc (.cells #[.slice a1 n1 c1, .int .i64 0] 41) = w5 := ⟨_, rfl⟩
      have hk5 : Kept (fun _ => False) w4 w5 := by rw [← hw5]; exact (Kept.refl _ _).alloc _
      have hbq : w5.heap[q]? = some (.cells #[.slice a1 n1 c1, .int .i64 ((0 : Nat) : Int)] 41 (0, 0)) := by rw [← hw5, ← hq]; exact blk_new _ _
      have hf5 : RfAt w5 q a1 n1 c1 (ints bs) 0 := ⟨hbq, (HX.out.1.kept hk4 (fun _ _ _ _ => id)).kept hk5 (fun _ _ _ _ => id), X.out.2.2.2.1, (fun b off h0 he hh => by have := X.out.2.2.2.2.1 b off h0 he; omega), HX.out.2.1, Nat.zero_le _, by omega, X.out.2.2.2.2.2.1, X.out.2.2.2.2.2.2⟩
      have hr5 := hrd.kept hk5 id (fun _ _ => id)
      have hk35 := (HKR.out.then hk4).then hk5
      have HB := Lib.hid (show w3.heap.size ≤ p ∧ w3.heap.size ≤ q ∧ p ≠ q ∧ (∀ b, o = some b → b ≠ q) ∧ (∀ b off, 0 < n1 → a1 = some ⟨b, off, none⟩ → b ≠ p) ∧ (∀ b off, 0 < n1 → a1 = some ⟨b, off, none⟩ → b ≠ q) from
        ⟨by omega, by omega, by omega, fun b hb => by have := hol b hb; omega, fun b off h0 he => by have := X.out.2.2.2.2.1 b off h0 he; omega, fun b off h0 he => by have := X.out.2.2.2.2.1 b off h0 he; omega⟩)
      have H5 := Lib.hid (And.intro hr5 (And.intro hf5 hk35))
      have HW5 := Lib.hid (And.intro hw5 hq)
      have h3a : a < w3.heap.size := HQ.out.1.1.lt
      have h3s : ∀ b, sv.ownBlock = some b → b < w3.heap.size := HQ.out.1.2.1.lt
      have h3r : ra < w3.heap.size := lt_of_blk HQ.out.2.1
      have h3c : ∀ b, rcv.ownBlock = some b → b < w3.heap.size := HQ.out.2.2.1.lt
      have h3l : ∀ b off, 0 < ls.length → rla = some ⟨b, off, none⟩ → b < w3.heap.size := fun b off h0 h => (HQ.out.2.2.2.2.2 b off h0 h).2.2
      have HZ := Lib.hid (And.intro h3a (And.intro h3s (And.intro h3r (And.intro h3c h3l))))
      clear hrd hp ho hk4 hz4 hzk hzW hpl hol hk5 hbq hf5 hr5 hk35 hw5 h3a h3s h3r h3c h3l hq
      have hq4 : w4.heap.size = q := HW5.out.2
      go_wp2
      rw [HW5.out.1]
      clear hq4
      go_loopg [18] 301 (fun gg iv wr => ∃ i t : Nat, 301 ≤ gg + i ∧ i ≤ 300 ∧ iv = .int .i64 (i : Int) ∧ RdAt wr p o (ints bs) t ∧ RfAt wr q a1 n1 c1 (ints bs) t ∧ Kept (fun _ => False) w3 wr)
      case atStart => exact ⟨0, 0, by omega, by omega, rfl, H5.out.1, H5.out.2.1, H5.out.2.2⟩
      case round =>
        obtain ⟨i, t, hgg, hil, rfl, hrd, hrf, hkw⟩ := hrel
        have H6 := Lib.hid (And.intro hrd (And.intro hrf hkw))
        clear hrd hrf hkw
        by_cases hrs : (i : Int) < rs
        · have gr : decide ((i : Int) < rs) = true := decide_eq_true hrs
          by_cases hi : i < 300
          · have gi : decide ((i : Int) < 300) = true := decide_eq_true (by omega)
            have gi' : decide (i < 300) = true := decide_eq_true hi
            have wi : IntKind.i64.wrap ((i : Int) + 1) = (i : Int) + 1 := IntWalk.i64_in _ (by omega)
            have hbl : (ints bs).length = n1 := by rw [ints_length]; exact X.out.2.2.1
            have hus := used_le ls (bitAt (ints bs) t) (8 * n1 - t)
            have her := err_rng ls (bitAt (ints bs) t) (8 * n1 - t)
            obtain ⟨R, hR⟩ : ∃ R, readV ls (bitAt (ints bs) t) (8 * n1 - t) = R := ⟨_, rfl⟩
            rw [hR] at hus her
            have hra := read_any wr a (codesR ls) ls sv cv la lc (HQ.out.1.grow H6.out.2.2) HP.out.2.1 (by rw [H.out.2.2.1]; omega) HP.out.2.2.1 p o (ints bs) t H6.out.1 (fun h => by have := HZ.out.1; have := HB.out.1; omega) (fun h => by have := HZ.out.2.1 p h; have := HB.out.1; omega) (by rw [hbl]; omega) (R := R) (by rw [hbl]; exact hR)
            have hrr := fun w' (hk' : Kept (fun _ => False) w3 w') (hf : RfAt w' q a1 n1 c1 (ints bs) t) => rread_any w' ra ls rcv rla rlc (HQ.out.2.grow hk') HP.out.2.1 (by rw [H.out.2.2.1]; omega) HP.out.2.2.2 q a1 n1 c1 (ints bs) t hf (fun h => by have := HZ.out.2.2.1; have := HB.out.2.1; omega) (fun h => by have := HZ.out.2.2.2.1 q h; have := HB.out.2.1; omega) (fun b off h0 h hh => by have := HZ.out.2.2.2.2 b off h0 h; have := HB.out.2.1; omega) (R := R) hR
            obtain ⟨S, U, E⟩ := R
            have HRA := Lib.hid (And.intro hra (And.intro hrr her))
            clear hbl hus her hR hra hrr
            go_wp2_with fail
            refine HRA.out.1.mono ?_
            rintro e w6 ⟨he, hrd6, hk6⟩
            obtain rfl : e = .returned (.tuple #[.int .i64 (S : Int), .int .i64 (E : Int)]) := he
            have hrf6 := H6.out.2.1.kept hk6 (fun h => HB.out.2.2.1 h.symm) (fun b off h0 he => HB.out.2.2.2.2.1 b off h0 he)
            have hkw6 : Kept (fun _ => False) w3 w6 := H6.out.2.2.trans (hk6.mono (fun j _ hj => Or.inr (by have : j = p := hj; have := HB.out.1; omega)))
            have H7 := Lib.hid (And.intro (show RdAt w6 p o (ints bs) (t + U) from hrd6) (And.intro hrf6 hkw6))
            clear hrd6 hk6 hrf6 hkw6
            go_wp2_with fail
            refine (HRA.out.2.1 w6 H7.out.2.2 H7.out.2.1).mono ?_
            rintro e w7 ⟨he, hrf7, hk7⟩
            obtain rfl : e = .returned (.tuple #[.int .i64 (S : Int), .int .i64 (E : Int)]) := he
            have hrd7 := H7.out.1.kept hk7 (fun h => HB.out.2.2.1 h) (fun b hb => HB.out.2.2.2.1 b hb)
            have hkw7 : Kept (fun _ => False) w3 w7 := H7.out.2.2.trans (hk7.mono (fun j _ hj => Or.inr (by have : j = q := hj; have := HB.out.2.1; omega)))
            obtain ⟨PT, hPT⟩ : ∃ PT, t + U = PT := ⟨_, rfl⟩
            have hrf7' : RfAt w7 q a1 n1 c1 (ints bs) PT := by rw [← hPT]; exact hrf7
            rw [hPT] at hrd7
            obtain ⟨WR, hWR⟩ : ∃ WR, WR = w7.drew := ⟨_, rfl⟩
            have hkR : Kept (fun _ => False) w7 WR := by rw [hWR]; exact (Kept.refl _ _).drew
            obtain ⟨-, z1, z2⟩ := blk2 hrf7'.1
            have X0 := cell_regrown (hkR.cell z1 id)
            have H8 := Lib.hid (And.intro hrd7 (And.intro hrf7' (And.intro hkw7 (And.intro hkR hWR))))
            obtain ⟨RC, hRC⟩ : ∃ R : Value → World → Prop, R = fun v _ => v = .int .i64 (PT : Int) := ⟨_, rfl⟩
            have HRC := Lib.hid hRC
            clear hrd7 hrf7 hrf7' hk7 hkw7 hkR hWR hRC z1 z2 hPT
            go_wp2
            refine wp_region_grow #[0, 0, 3, 7, 15, 15, 63, 127, 255, 511, 1023, 511, 2559, 6655, 14847, 32767, 65535] 17 [] (fun i => if i = 10 then some RC else none) (by kernel_rfl) rfl (by kernel_rfl) (fun i hi => by cases hi) (fun _ _ _ _ _ h => h) ?_
            rintro _ rfl
            rw [← H8.out.2.2.2.2]
            simp only [List.take_succ_cons, List.take_zero, List.drop_succ_cons, List.drop_zero, number, Nat.reduceAdd]
            refine wpGrow_step (fun K hK => ?_); go_simp; refine hK _ _ ?_; clear hK K
            refine wpGrow_step (fun K hK => ?_); go_simp; refine hK _ _ ?_; clear hK K
            refine wpGrow_step (fun K hK => ?_); go_simp; refine hK _ _ ?_; clear hK K
            refine wpGrow_step (fun K hK => ?_); go_simp; refine hK _ _ ?_; clear hK K
            refine wpGrow_step (fun K hK => ?_); go_simp; refine hK _ _ ?_; clear hK K
            refine wpGrow_step (fun K hK => ?_); go_simp; refine hK _ _ ?_; clear hK K
            refine wpGrow_step (fun K hK => ?_); go_simp; refine hK _ _ ?_; clear hK K
            refine wpGrow_step (fun K hK => ?_); go_simp; refine hK _ _ ?_; clear hK K
            refine wpGrow_step (fun K hK => ?_); go_simp; refine hK _ _ ?_; clear hK K
            refine wpGrow_step (fun K hK => ?_); go_simp; refine hK _ _ ?_; clear hK K
            refine wpGrow_step (fun K hK => ?_)
            go_simp
            refine ⟨fun w' hg => (at_any p o (ints bs) PT w' (H8.out.1.kept (H8.out.2.2.2.1.then hg.old) id (fun _ _ => id))).mono (fun e w'' ⟨he, hk⟩ => ⟨_, he, by rw [hk]; exact Kept.refl _ _, by rw [HRC.out]⟩), fun v wv hv _ => ?_⟩
            rw [HRC.out] at hv
            subst hv
            refine hK _ _ ?_; clear hK K
            refine wpGrow_step (fun K hK => ?_); go_simp; refine hK _ _ ?_; clear hK K
            refine wpGrow_step (fun K hK => ?_); go_simp; refine hK _ _ ?_; clear hK K
            refine wpGrow_step (fun K hK => ?_); go_simp; refine hK _ _ ?_; clear hK K
            refine wpGrow_step (fun K hK => ?_); go_simp; refine hK _ _ ?_; clear hK K
            refine wpGrow_step (fun K hK => ?_); go_simp; refine hK _ _ ?_; clear hK K
            refine wpGrow_step (fun K hK => ?_); go_simp; refine hK _ _ ?_; clear hK K
            refine wpGrow_nil ?_
            intro w9 hk9 hω
            have hk79 := H8.out.2.2.2.1.then hk9
            have H9 := Lib.hid (And.intro (H8.out.1.kept hk79 id (fun _ _ => id)) (And.intro (H8.out.2.1.kept hk79 id (fun _ _ _ _ => id)) (H8.out.2.2.1.then hk79)))
            clear hk9 hω X0 hk79
            by_cases hE : E = 0
            · subst hE
              go_wp2
              go_roundg (gk - 1)
              case rel => exact ⟨i + 1, PT, by omega, by omega, by simp, H9.out.1, H9.out.2.1, H9.out.2.2⟩
              case measure => omega
            · have gE : ((E : Int) == 0) = false := by simp; omega
              have HSY := Lib.hid (And.intro (symbols_any w9 a _ _ ls _ sv cv la lc (HQ.out.1.grow H9.out.2.2) HP.out.2.1) (rsymbols_any w9 ra _ ls rcv rla rlc (HQ.out.2.grow H9.out.2.2) HP.out.2.1 (by rw [H.out.2.2.1]; omega)))
              obtain ⟨NZ, hNZ⟩ : ∃ n, nz ls = n := ⟨_, rfl⟩
              rw [hNZ] at HSY
              clear hNZ
              go_wp2_with fail
              refine HSY.out.1.mono ?_
              rintro e w8 ⟨rfl, hw8⟩
              obtain rfl : w9 = w8 := hw8.symm
              go_wp2_with fail
              refine HSY.out.2.mono ?_
              rintro e w8 ⟨rfl, hw8⟩
              obtain rfl : w9 = w8 := hw8.symm
              go_wp2
              exact bodyPost_ret (v := .bool true) (by simp [results, Try.results4, go_sem]) rfl ⟨rfl, HK3.out.1.then H9.out.2.2⟩
          · have gi : decide ((i : Int) < 300) = false := decide_eq_false (by omega)
            have gi' : decide (i < 300) = false := decide_eq_false hi
            have HSY := Lib.hid (And.intro (symbols_any wr a _ _ ls _ sv cv la lc (HQ.out.1.grow H6.out.2.2) HP.out.2.1) (rsymbols_any wr ra _ ls rcv rla rlc (HQ.out.2.grow H6.out.2.2) HP.out.2.1 (by rw [H.out.2.2.1]; omega)))
            obtain ⟨NZ, hNZ⟩ : ∃ n, nz ls = n := ⟨_, rfl⟩
            rw [hNZ] at HSY
            clear hNZ
            go_wp2_with fail
            refine HSY.out.1.mono ?_
            rintro e w8 ⟨rfl, hw8⟩
            obtain rfl : wr = w8 := hw8.symm
            go_wp2_with fail
            refine HSY.out.2.mono ?_
            rintro e w8 ⟨rfl, hw8⟩
            obtain rfl : wr = w8 := hw8.symm
            go_wp2
            exact bodyPost_ret (v := .bool true) (by simp [results, Try.results4, go_sem]) rfl ⟨rfl, HK3.out.1.then H6.out.2.2⟩
        · have gr : decide ((i : Int) < rs) = false := decide_eq_false hrs
          have HSY := Lib.hid (And.intro (symbols_any wr a _ _ ls _ sv cv la lc (HQ.out.1.grow H6.out.2.2) HP.out.2.1) (rsymbols_any wr ra _ ls rcv rla rlc (HQ.out.2.grow H6.out.2.2) HP.out.2.1 (by rw [H.out.2.2.1]; omega)))
          obtain ⟨NZ, hNZ⟩ : ∃ n, nz ls = n := ⟨_, rfl⟩
          rw [hNZ] at HSY
          clear hNZ
          go_wp2_with fail
          refine HSY.out.1.mono ?_
          rintro e w8 ⟨rfl, hw8⟩
          obtain rfl : wr = w8 := hw8.symm
          go_wp2_with fail
          refine HSY.out.2.mono ?_
          rintro e w8 ⟨rfl, hw8⟩
          obtain rfl : wr = w8 := hw8.symm
          go_wp2
          exact bodyPost_ret (v := .bool true) (by simp [results, Try.results4, go_sem]) rfl ⟨rfl, HK3.out.1.then H6.out.2.2⟩
theorem law_tables {a0 a1 : Option Addr} {l0 c0 l1 c1 : Nat} {z0 z1 : List Int} {n : Int} {w : World} (f0 : IsRow .u8 w a0 l0 c0 z0) (f1 : IsRow .u8 w a1 l1 c1 z1) :
    Calls Try.prog 4 #[.slice a0 l0 c0, .slice a1 l1 c1, .int .i64 n] w fun e w' => e = .returned (.bool true) ∧ Below w.heap.size w w' := by
  obtain ⟨bs, s0, b0, -, k0, m0, n0, e0⟩ := row_ints f0
  obtain ⟨ys, s1, b1, -, k1, m1, n1, e1⟩ := row_ints f1
  exact (tables_go a0 l0 c0 bs a1 l1 c1 ys n w s0 b0 e0 s1 b1 e1 n1 k1 m1).mono (fun e w' ⟨h1, h2⟩ => ⟨h1, h2.below⟩)
end Go.Proofs.Ytndneidjnlammaa
