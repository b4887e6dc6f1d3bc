/- An error comes at one sign, however the text is cut: the law walked. -/
import Derived.Test.YtgmbjebighhgkaaRDec
import Derived.Test.YtgmbjebighhgkaaCuts
import Derived.Test.YtgmbjebighhgkaaTails
import Derived.Lib.SlBytesConst
namespace Go.Proofs.Ytgmbjebighhgkaa
open Go.RowKit
set_option linter.unusedVariables false
set_option linter.unusedSimpArgs false
set_option maxRecDepth 100000 in
set_option maxHeartbeats 16000000 in
theorem errors_main (a0 a2 : Option Addr) (l0 c0 l2 c2 C : Nat) (cut : Int) (bs ms : List Nat) (w : World) (hs0 : SlAt .u8 w a0 l0 (ints bs)) (hs2 : SlAt .u8 w a2 l2 (ints ms)) (hb0 : ∀ c ∈ bs, c < 256) (hb2 : ∀ c ∈ ms, c < 256)
    (hn0 : ∀ b off, 0 < l0 → a0 = some ⟨b, off, none⟩ → b < w.heap.size) (hn2 : ∀ b off, 0 < l2 → a2 = some ⟨b, off, none⟩ → b < w.heap.size) (hl0 : l0 ≤ 4096) (hc0 : l0 ≤ c0) (hcm : c0 ≤ 9223372036854775807) (hl2 : l2 ≤ 4096) (hnil : a0 = none → l0 = 0 ∧ c0 = 0)
    (hC : (cut < 0 ∧ C = l0) ∨ ((l0 : Int) < cut ∧ C = l0) ∨ (cut = (C : Int) ∧ C ≤ l0)) (TA : Option Addr) (hT : (c0 = C ∧ TA = a0) ∨ (C < c0 ∧ ∃ b off, a0 = some ⟨b, off, none⟩ ∧ TA = some ⟨b, off + C, none⟩)) (hts : SlAt .u8 w TA (l0 - C) (ints (bs.drop C))) (htn : ∀ b off, 0 < l0 - C → TA = some ⟨b, off, none⟩ → b < w.heap.size) :
    Calls Try.prog 5 #[.slice a0 l0 c0, .int .i64 cut, .slice a2 l2 c2] w fun e w' => e = .returned (.bool true) ∧ Kept (fun _ => False) w w' := by
  have kc := fun (w : World) (C : Array Value) (n c : Nat) => Lib.run_convert_bytes_const (P := Try.prog) w 28 5 C n c Try.underlying28 Try.underlying5
  have hCl : C ≤ l0 := by omega
  have hbl : bs.length = l0 := by rw [← hs0.1, ints_length]
  have g0 : decide (4096 < (l0 : Int)) = false := decide_eq_false (by omega)
  have g2 : decide (4096 < (l2 : Int)) = false := decide_eq_false (by omega)
  have H := Lib.hid (And.intro hs0 (And.intro hs2 (And.intro hb0 (And.intro hb2 (And.intro hn0 (And.intro hn2 (And.intro hts htn)))))))
  have hF : SlAt .u8 w a0 C (ints (bs.take C)) := hs0.front hCl
  have HFr := Lib.hid hF
  have HT := Lib.hid hT
  have e12 := three_errs (bs.take C) (bs.drop C)
  rw [List.take_append_drop] at e12
  obtain ⟨X1, hX1⟩ : ∃ X, write fresh (bs.take C) = X := ⟨_, rfl⟩
  rw [hX1] at e12
  obtain ⟨X2, hX2⟩ : ∃ X, write X1.1 (bs.drop C) = X := ⟨_, rfl⟩
  rw [hX2] at e12
  obtain ⟨X3, hX3⟩ : ∃ X, write fresh bs = X := ⟨_, rfl⟩
  rw [hX3] at e12
  have HX := Lib.hid (And.intro hX1 (And.intro hX2 hX3))
  have HE := Lib.hid e12
  clear hs0 hs2 hb0 hb2 hn0 hn2 hts htn hF hT e12 hX1 hX2 hX3 hnil hbl
  rcases hC with ⟨h1, h2⟩ | ⟨h1, h2⟩ | ⟨h1, h2⟩
  · subst C
    have k1 : decide (cut < 0) = true := decide_eq_true h1
    clear h1
    rcases HT.out with ⟨hc, hta⟩ | ⟨hc, tb, toff, hta, htb⟩
    · subst c0 TA
      go_enter Try.func5, Try.ntmps5
      go_wp2_with fail
      refine (known_any w).mono ?_
      rintro e w1 ⟨rfl, hk1⟩
      have HK1 := Lib.hid hk1
      clear hk1
      go_wp2_with fail
      refine (new_any w1).mono ?_
      rintro e w2 ⟨rfl, hd2, hk2⟩
      obtain ⟨p, hp⟩ : ∃ p, w1.heap.size = p := ⟨_, rfl⟩
      rw [hp] at hd2 ⊢
      obtain ⟨q, hq⟩ : ∃ q, w2.heap.size = q := ⟨_, rfl⟩
      have hpq : p < q := by rw [← hq]; exact (lt_of_blk hd2)
      have hwp : w.heap.size ≤ p := by rw [← hp]; exact HK1.out.size
      obtain ⟨W0, hW0⟩ : ∃ W0, w2.alloc (.cells #[.slice none 0 0, .bool false, .bool false] 30) = W0 := ⟨_, rfl⟩
      have hkW : Kept (fun _ => False) w W0 := by rw [← hW0]; exact (HK1.out.then hk2).alloc _
      have hdW : DAt W0 p fresh := by rw [← hW0]; exact (fresh_dc hd2).kept ((Kept.refl (fun _ => False) _).alloc _) id
      have hrW : RD W0 q fresh none := by rw [← hW0, ← hq]; exact rd_fresh w2
      have HKW := Lib.hid hkW
      have HRW := Lib.hid hrW
      have HP := Lib.hid (And.intro hpq hwp)
      have HW1 := Lib.hid (write_any p fresh _ l0 l0 (bs.take l0) W0 hdW sane_fresh (HFr.out.up hkW) (fun c hc => H.out.2.2.1 c (List.mem_of_mem_take hc)) (by omega) (fun b off h0 h => by have := H.out.2.2.2.2.1 b off (by omega) h; omega))
      unfold WPost at HW1
      rw [HX.out.1] at HW1
      clear hd2 hk2 hkW hdW hrW hpq hwp hp
      go_wp2_with fail
      try rw [hq]
      clear hW0 hq
      refine HW1.out.mono ?_
      rintro e w3 ⟨u1, rfl, hr1, hd3, hk3⟩
      have hkw3 : Kept (fun _ => False) w w3 := HKW.out.trans (hk3.mono fun i _ (hi : i = p) => Or.inr (by have := HP.out.2; omega))
      have hrd3 : RD w3 q fresh none := HRW.out.kept hk3 (fun (h : q = p) => by have := HP.out.1; omega) (fun b h => by cases h)
      have HW2 := Lib.hid (write_any p X1.1 _ (l0 - l0) (l0 - l0) (bs.drop l0) w3 hd3 (by rw [← HX.out.1]; exact write_sane _) (H.out.2.2.2.2.2.2.1.up hkw3) (fun c hc => H.out.2.2.1 c (List.mem_of_mem_drop hc)) (by omega) (fun b off h0 h => by have := H.out.2.2.2.2.2.2.2 b off h0 h; have := HP.out.2; omega))
      unfold WPost at HW2
      rw [HX.out.2.1] at HW2
      try simp only [Nat.sub_self] at HW2
      have HR1 := Lib.hid hr1
      have HK3 := Lib.hid (And.intro hkw3 (And.intro hrd3 hd3.lt))
      clear hr1 hd3 hk3 hkw3 hrd3
      go_wp2_with fail
      refine HW2.out.mono ?_
      rintro e w4 ⟨u2, rfl, hr2, hd4, hk4⟩
      have hkw4 : Kept (fun _ => False) w w4 := HK3.out.1.trans (hk4.mono fun i _ (hi : i = p) => Or.inr (by have := HP.out.2; omega))
      have hrd4 : RD w4 q fresh none := HK3.out.2.1.kept hk4 (fun (h : q = p) => by have := HP.out.1; omega) (fun b h => by cases h)
      have HW3 := Lib.hid (rwrite_any q fresh none _ l0 l0 bs w4 hrd4 sane_fresh small_fresh (H.out.1.up hkw4) H.out.2.2.1 (by omega) (fun b off h0 h => by have := H.out.2.2.2.2.1 b off h0 h; exact ⟨by have := HP.out; omega, by simp⟩))
      unfold RPost at HW3
      rw [HX.out.2.2] at HW3
      have HR1 := Lib.hid (HR1.out.kept hk4 (fun g hg (hS : g = p) => by have := HKW.out.size; have := HP.out; have := HRW.out.lt.1; omega))
      have HR2 := Lib.hid hr2
      have HD4 := Lib.hid (And.intro hd4 (And.intro hkw4 hrd4.lt.1))
      clear hr2 hd4 hk4 hkw4 hrd4
      go_wp2_with fail
      refine HW3.out.mono ?_
      rintro e w5 ⟨u3, o3, rfl, ho3, hr5, he5, hf3⟩
      have hkq : Kept (fun i => i = q) w4 w5 := he5.1.mono (fun i _ h => by rcases h with h | h; (exact h); (cases h))
      have hkw5 : Kept (fun _ => False) w w5 := HD4.out.2.1.trans (hkq.mono fun i _ (hi : i = q) => Or.inr (by have := HP.out; omega))
      have hd5 : DAt w5 p X2.1 := HD4.out.1.kept hkq (fun (h : p = q) => by have := HP.out.1; omega)
      obtain ⟨b1, n1, cp1, rfl, cv1⟩ := res_str (HR1.out.kept hkq (fun g hg (hS : g = q) => by have := HRW.out.lt.1; omega))
      obtain ⟨b2, n2, cp2, rfl, cv2⟩ := res_str (HR2.out.kept hkq (fun g hg (hS : g = q) => by have := HK3.out.2.1.lt.1; omega))
      obtain ⟨b3, n3, cp3, rfl, cv3⟩ := res_str (Res.of_own ho3 hf3)
      have HK5 := Lib.hid (And.intro hkw5 hd5)
      clear ho3 hr5 he5 hf3 hkq hkw5 hd5
      rcases HE.out with ⟨q1, q2, q3, q4⟩ | ⟨q1, q2, q3, q4⟩
      · rw [q1, q2, q3]
        rw [← q4, ints_append, ← str_app] at cv3
        have e1 := write_len (s := fresh) (bs := bs.take l0)
        have e2 := write_len (s := X1.1) (bs := bs.drop l0)
        rw [HX.out.1] at e1
        rw [HX.out.2.1] at e2
        have e3 : (ints bs).length = l0 := H.out.1.1
        rw [ints_length] at e3
        have hsz : ¬ 9223372036854775807 < (strOfNums (ints X1.2.1)).size + (strOfNums (ints X2.2.1)).size := by
          rw [str_size, str_size, ints_length, ints_length]
          simp at e1 e2
          omega
        clear e1 e2 e3
        clear q1 q2 q3 q4
        go_wp2
        first
          | exact bodyPost_ret (v := .bool true) (by simp [results, Try.results5, go_sem]) rfl ⟨rfl, HK5.out.1⟩
          | skip
      · rw [q2, q3]
        have hd5 := HK5.out.2
        rw [q4] at hd5
        have HW6 := Lib.hid (write_any p broken a2 l2 c2 ms w5 hd5 sane_broken (H.out.2.1.up HK5.out.1) H.out.2.2.2.1 (by omega) (fun b off h0 h => by have := H.out.2.2.2.2.2.1 b off h0 h; have := HP.out; omega))
        unfold WPost at HW6
        rw [write_broken] at HW6
        clear cv1 cv2 cv3 q2 q3 q4 hd5
        rcases q1 with q1 | q1
        all_goals
          rw [q1]
          clear q1
          go_wp2_with fail
          refine HW6.out.mono ?_
          rintro e w6 ⟨u6, rfl, hr6, hd6, hk6⟩
          obtain ⟨b6, n6, cp6, rfl, hs6, -⟩ := hr6
          obtain rfl : 0 = n6 := hs6.1
          have HE6 := Lib.hid (end_any p broken w6 hd6)
          rw [fin_broken] at HE6
          have HK6 := Lib.hid (HK5.out.1.trans (hk6.mono fun i _ (hi : i = p) => Or.inr (by have := HP.out; omega)))
          clear hs6 hd6 hk6
          go_wp2_with fail
          refine HE6.out.mono ?_
          rintro e w7 ⟨u7, rfl, ho7, hd7, hk7, -⟩
          obtain ⟨b7, cp7, rfl, -⟩ := ho7.shape
          have HK7 := Lib.hid (HK6.out.trans (hk7.mono fun i _ (hi : i = p) => Or.inr (by have := HP.out; omega)))
          have HH := Lib.hid (held_any p _ _ _ _ _ w7 hd7.1)
          have HZ := Lib.hid (reset_any p _ _ _ _ _ w7 hd7.1)
          have l0' : (ints []).length = 0 := rfl
          have l1' : broken.wait.length = 0 := rfl
          rw [l1'] at HH
          rw [l0']
          have z00 : IntKind.i64.wrap 0 = 0 := by decide
          clear ho7 hd7 hk7
          go_wp2_with fail
          refine HH.out.mono ?_
          rintro e wh ⟨rfl, rfl⟩
          go_wp2_with fail
          refine HZ.out.mono ?_
          rintro e w8 ⟨rfl, hd8, hk8⟩
          have HK8 := Lib.hid (HK7.out.trans (hk8.mono fun i _ (hi : i = p) => Or.inr (by have := HP.out; omega)))
          have HW9 := Lib.hid (write_any p fresh (some ⟨w8.heap.size, 0, none⟩) 4 4 [81, 85, 74, 68] (w8.alloc (.cells #[.int .u8 81, .int .u8 85, .int .u8 74, .int .u8 68] 5 (4, 5))) ((fresh_dc hd8).kept ((Kept.refl (fun _ => False) w8).alloc _) id) sane_fresh (slAt_blk (blk_new w8 _) rfl rfl) (by decide) (by omega) (fun b off _ h => by cases h; have := (lt_of_blk hd8); omega))
          unfold WPost at HW9
          rw [write_abc] at HW9
          have HKA := Lib.hid (HK8.out.alloc (.cells #[.int .u8 81, .int .u8 85, .int .u8 74, .int .u8 68] 5 (4, 5)))
          clear hd8 hk8
          go_wp2_with fail
          refine HW9.out.mono ?_
          rintro e w9 ⟨u9, rfl, hr9, hd9, hk9⟩
          obtain ⟨b9, n9, cp9, rfl, cv9⟩ := res_str hr9
          rw [show strOfNums (ints [65, 66, 67]) = ⟨#[65, 66, 67]⟩ from rfl] at cv9
          have HK9 := Lib.hid (HKA.out.trans (hk9.mono fun i _ (hi : i = p) => Or.inr (by have := HP.out; omega)))
          clear hr9 hd9 hk9
          go_wp2
          exact bodyPost_ret (v := .bool true) (by simp [results, Try.results5, go_sem]) rfl ⟨rfl, HK9.out⟩
    · subst a0 TA
      go_enter Try.func5, Try.ntmps5
      go_wp2_with fail
      refine (known_any w).mono ?_
      rintro e w1 ⟨rfl, hk1⟩
      have HK1 := Lib.hid hk1
      clear hk1
      go_wp2_with fail
      refine (new_any w1).mono ?_
      rintro e w2 ⟨rfl, hd2, hk2⟩
      obtain ⟨p, hp⟩ : ∃ p, w1.heap.size = p := ⟨_, rfl⟩
      rw [hp] at hd2 ⊢
      obtain ⟨q, hq⟩ : ∃ q, w2.heap.size = q := ⟨_, rfl⟩
      have hpq : p < q := by rw [← hq]; exact (lt_of_blk hd2)
      have hwp : w.heap.size ≤ p := by rw [← hp]; exact HK1.out.size
      obtain ⟨W0, hW0⟩ : ∃ W0, w2.alloc (.cells #[.slice none 0 0, .bool false, .bool false] 30) = W0 := ⟨_, rfl⟩
      have hkW : Kept (fun _ => False) w W0 := by rw [← hW0]; exact (HK1.out.then hk2).alloc _
      have hdW : DAt W0 p fresh := by rw [← hW0]; exact (fresh_dc hd2).kept ((Kept.refl (fun _ => False) _).alloc _) id
      have hrW : RD W0 q fresh none := by rw [← hW0, ← hq]; exact rd_fresh w2
      have HKW := Lib.hid hkW
      have HRW := Lib.hid hrW
      have HP := Lib.hid (And.intro hpq hwp)
      have HW1 := Lib.hid (write_any p fresh _ l0 c0 (bs.take l0) W0 hdW sane_fresh (HFr.out.up hkW) (fun c hc => H.out.2.2.1 c (List.mem_of_mem_take hc)) (by omega) (fun b off h0 h => by have := H.out.2.2.2.2.1 b off (by omega) h; omega))
      unfold WPost at HW1
      rw [HX.out.1] at HW1
      clear hd2 hk2 hkW hdW hrW hpq hwp hp
      go_wp2_with fail
      try rw [hq]
      clear hW0 hq
      refine HW1.out.mono ?_
      rintro e w3 ⟨u1, rfl, hr1, hd3, hk3⟩
      have hkw3 : Kept (fun _ => False) w w3 := HKW.out.trans (hk3.mono fun i _ (hi : i = p) => Or.inr (by have := HP.out.2; omega))
      have hrd3 : RD w3 q fresh none := HRW.out.kept hk3 (fun (h : q = p) => by have := HP.out.1; omega) (fun b h => by cases h)
      have HW2 := Lib.hid (write_any p X1.1 _ (l0 - l0) (c0 - l0) (bs.drop l0) w3 hd3 (by rw [← HX.out.1]; exact write_sane _) (H.out.2.2.2.2.2.2.1.up hkw3) (fun c hc => H.out.2.2.1 c (List.mem_of_mem_drop hc)) (by omega) (fun b off h0 h => by have := H.out.2.2.2.2.2.2.2 b off h0 h; have := HP.out.2; omega))
      unfold WPost at HW2
      rw [HX.out.2.1] at HW2
      try simp only [Nat.sub_self] at HW2
      have HR1 := Lib.hid hr1
      have HK3 := Lib.hid (And.intro hkw3 (And.intro hrd3 hd3.lt))
      clear hr1 hd3 hk3 hkw3 hrd3
      go_wp2_with fail
      refine HW2.out.mono ?_
      rintro e w4 ⟨u2, rfl, hr2, hd4, hk4⟩
      have hkw4 : Kept (fun _ => False) w w4 := HK3.out.1.trans (hk4.mono fun i _ (hi : i = p) => Or.inr (by have := HP.out.2; omega))
      have hrd4 : RD w4 q fresh none := HK3.out.2.1.kept hk4 (fun (h : q = p) => by have := HP.out.1; omega) (fun b h => by cases h)
      have HW3 := Lib.hid (rwrite_any q fresh none _ l0 c0 bs w4 hrd4 sane_fresh small_fresh (H.out.1.up hkw4) H.out.2.2.1 (by omega) (fun b off h0 h => by have := H.out.2.2.2.2.1 b off h0 h; exact ⟨by have := HP.out; omega, by simp⟩))
      unfold RPost at HW3
      rw [HX.out.2.2] at HW3
      have HR1 := Lib.hid (HR1.out.kept hk4 (fun g hg (hS : g = p) => by have := HKW.out.size; have := HP.out; have := HRW.out.lt.1; omega))
      have HR2 := Lib.hid hr2
      have HD4 := Lib.hid (And.intro hd4 (And.intro hkw4 hrd4.lt.1))
      clear hr2 hd4 hk4 hkw4 hrd4
      go_wp2_with fail
      refine HW3.out.mono ?_
      rintro e w5 ⟨u3, o3, rfl, ho3, hr5, he5, hf3⟩
      have hkq : Kept (fun i => i = q) w4 w5 := he5.1.mono (fun i _ h => by rcases h with h | h; (exact h); (cases h))
      have hkw5 : Kept (fun _ => False) w w5 := HD4.out.2.1.trans (hkq.mono fun i _ (hi : i = q) => Or.inr (by have := HP.out; omega))
      have hd5 : DAt w5 p X2.1 := HD4.out.1.kept hkq (fun (h : p = q) => by have := HP.out.1; omega)
      obtain ⟨b1, n1, cp1, rfl, cv1⟩ := res_str (HR1.out.kept hkq (fun g hg (hS : g = q) => by have := HRW.out.lt.1; omega))
      obtain ⟨b2, n2, cp2, rfl, cv2⟩ := res_str (HR2.out.kept hkq (fun g hg (hS : g = q) => by have := HK3.out.2.1.lt.1; omega))
      obtain ⟨b3, n3, cp3, rfl, cv3⟩ := res_str (Res.of_own ho3 hf3)
      have HK5 := Lib.hid (And.intro hkw5 hd5)
      clear ho3 hr5 he5 hf3 hkq hkw5 hd5
      rcases HE.out with ⟨q1, q2, q3, q4⟩ | ⟨q1, q2, q3, q4⟩
      · rw [q1, q2, q3]
        rw [← q4, ints_append, ← str_app] at cv3
        have e1 := write_len (s := fresh) (bs := bs.take l0)
        have e2 := write_len (s := X1.1) (bs := bs.drop l0)
        rw [HX.out.1] at e1
        rw [HX.out.2.1] at e2
        have e3 : (ints bs).length = l0 := H.out.1.1
        rw [ints_length] at e3
        have hsz : ¬ 9223372036854775807 < (strOfNums (ints X1.2.1)).size + (strOfNums (ints X2.2.1)).size := by
          rw [str_size, str_size, ints_length, ints_length]
          simp at e1 e2
          omega
        clear e1 e2 e3
        clear q1 q2 q3 q4
        go_wp2
        first
          | exact bodyPost_ret (v := .bool true) (by simp [results, Try.results5, go_sem]) rfl ⟨rfl, HK5.out.1⟩
          | skip
      · rw [q2, q3]
        have hd5 := HK5.out.2
        rw [q4] at hd5
        have HW6 := Lib.hid (write_any p broken a2 l2 c2 ms w5 hd5 sane_broken (H.out.2.1.up HK5.out.1) H.out.2.2.2.1 (by omega) (fun b off h0 h => by have := H.out.2.2.2.2.2.1 b off h0 h; have := HP.out; omega))
        unfold WPost at HW6
        rw [write_broken] at HW6
        clear cv1 cv2 cv3 q2 q3 q4 hd5
        rcases q1 with q1 | q1
        all_goals
          rw [q1]
          clear q1
          go_wp2_with fail
          refine HW6.out.mono ?_
          rintro e w6 ⟨u6, rfl, hr6, hd6, hk6⟩
          obtain ⟨b6, n6, cp6, rfl, hs6, -⟩ := hr6
          obtain rfl : 0 = n6 := hs6.1
          have HE6 := Lib.hid (end_any p broken w6 hd6)
          rw [fin_broken] at HE6
          have HK6 := Lib.hid (HK5.out.1.trans (hk6.mono fun i _ (hi : i = p) => Or.inr (by have := HP.out; omega)))
          clear hs6 hd6 hk6
          go_wp2_with fail
          refine HE6.out.mono ?_
          rintro e w7 ⟨u7, rfl, ho7, hd7, hk7, -⟩
          obtain ⟨b7, cp7, rfl, -⟩ := ho7.shape
          have HK7 := Lib.hid (HK6.out.trans (hk7.mono fun i _ (hi : i = p) => Or.inr (by have := HP.out; omega)))
          have HH := Lib.hid (held_any p _ _ _ _ _ w7 hd7.1)
          have HZ := Lib.hid (reset_any p _ _ _ _ _ w7 hd7.1)
          have l0' : (ints []).length = 0 := rfl
          have l1' : broken.wait.length = 0 := rfl
          rw [l1'] at HH
          rw [l0']
          have z00 : IntKind.i64.wrap 0 = 0 := by decide
          clear ho7 hd7 hk7
          go_wp2_with fail
          refine HH.out.mono ?_
          rintro e wh ⟨rfl, rfl⟩
          go_wp2_with fail
          refine HZ.out.mono ?_
          rintro e w8 ⟨rfl, hd8, hk8⟩
          have HK8 := Lib.hid (HK7.out.trans (hk8.mono fun i _ (hi : i = p) => Or.inr (by have := HP.out; omega)))
          have HW9 := Lib.hid (write_any p fresh (some ⟨w8.heap.size, 0, none⟩) 4 4 [81, 85, 74, 68] (w8.alloc (.cells #[.int .u8 81, .int .u8 85, .int .u8 74, .int .u8 68] 5 (4, 5))) ((fresh_dc hd8).kept ((Kept.refl (fun _ => False) w8).alloc _) id) sane_fresh (slAt_blk (blk_new w8 _) rfl rfl) (by decide) (by omega) (fun b off _ h => by cases h; have := (lt_of_blk hd8); omega))
          unfold WPost at HW9
          rw [write_abc] at HW9
          have HKA := Lib.hid (HK8.out.alloc (.cells #[.int .u8 81, .int .u8 85, .int .u8 74, .int .u8 68] 5 (4, 5)))
          clear hd8 hk8
          go_wp2_with fail
          refine HW9.out.mono ?_
          rintro e w9 ⟨u9, rfl, hr9, hd9, hk9⟩
          obtain ⟨b9, n9, cp9, rfl, cv9⟩ := res_str hr9
          rw [show strOfNums (ints [65, 66, 67]) = ⟨#[65, 66, 67]⟩ from rfl] at cv9
          have HK9 := Lib.hid (HKA.out.trans (hk9.mono fun i _ (hi : i = p) => Or.inr (by have := HP.out; omega)))
          clear hr9 hd9 hk9
          go_wp2
          exact bodyPost_ret (v := .bool true) (by simp [results, Try.results5, go_sem]) rfl ⟨rfl, HK9.out⟩
  · subst C
    have k1 : decide (cut < 0) = false := decide_eq_false (by omega)
    have k2 : decide ((l0 : Int) < cut) = true := decide_eq_true h1
    clear h1
    rcases HT.out with ⟨hc, hta⟩ | ⟨hc, tb, toff, hta, htb⟩
    · subst c0 TA
      go_enter Try.func5, Try.ntmps5
      go_wp2_with fail
      refine (known_any w).mono ?_
      rintro e w1 ⟨rfl, hk1⟩
      have HK1 := Lib.hid hk1
      clear hk1
      go_wp2_with fail
      refine (new_any w1).mono ?_
      rintro e w2 ⟨rfl, hd2, hk2⟩
      obtain ⟨p, hp⟩ : ∃ p, w1.heap.size = p := ⟨_, rfl⟩
      rw [hp] at hd2 ⊢
      obtain ⟨q, hq⟩ : ∃ q, w2.heap.size = q := ⟨_, rfl⟩
      have hpq : p < q := by rw [← hq]; exact (lt_of_blk hd2)
      have hwp : w.heap.size ≤ p := by rw [← hp]; exact HK1.out.size
      obtain ⟨W0, hW0⟩ : ∃ W0, w2.alloc (.cells #[.slice none 0 0, .bool false, .bool false] 30) = W0 := ⟨_, rfl⟩
      have hkW : Kept (fun _ => False) w W0 := by rw [← hW0]; exact (HK1.out.then hk2).alloc _
      have hdW : DAt W0 p fresh := by rw [← hW0]; exact (fresh_dc hd2).kept ((Kept.refl (fun _ => False) _).alloc _) id
      have hrW : RD W0 q fresh none := by rw [← hW0, ← hq]; exact rd_fresh w2
      have HKW := Lib.hid hkW
      have HRW := Lib.hid hrW
      have HP := Lib.hid (And.intro hpq hwp)
      have HW1 := Lib.hid (write_any p fresh _ l0 l0 (bs.take l0) W0 hdW sane_fresh (HFr.out.up hkW) (fun c hc => H.out.2.2.1 c (List.mem_of_mem_take hc)) (by omega) (fun b off h0 h => by have := H.out.2.2.2.2.1 b off (by omega) h; omega))
      unfold WPost at HW1
      rw [HX.out.1] at HW1
      clear hd2 hk2 hkW hdW hrW hpq hwp hp
      go_wp2_with fail
      try rw [hq]
      clear hW0 hq
      refine HW1.out.mono ?_
      rintro e w3 ⟨u1, rfl, hr1, hd3, hk3⟩
      have hkw3 : Kept (fun _ => False) w w3 := HKW.out.trans (hk3.mono fun i _ (hi : i = p) => Or.inr (by have := HP.out.2; omega))
      have hrd3 : RD w3 q fresh none := HRW.out.kept hk3 (fun (h : q = p) => by have := HP.out.1; omega) (fun b h => by cases h)
      have HW2 := Lib.hid (write_any p X1.1 _ (l0 - l0) (l0 - l0) (bs.drop l0) w3 hd3 (by rw [← HX.out.1]; exact write_sane _) (H.out.2.2.2.2.2.2.1.up hkw3) (fun c hc => H.out.2.2.1 c (List.mem_of_mem_drop hc)) (by omega) (fun b off h0 h => by have := H.out.2.2.2.2.2.2.2 b off h0 h; have := HP.out.2; omega))
      unfold WPost at HW2
      rw [HX.out.2.1] at HW2
      try simp only [Nat.sub_self] at HW2
      have HR1 := Lib.hid hr1
      have HK3 := Lib.hid (And.intro hkw3 (And.intro hrd3 hd3.lt))
      clear hr1 hd3 hk3 hkw3 hrd3
      go_wp2_with fail
      refine HW2.out.mono ?_
      rintro e w4 ⟨u2, rfl, hr2, hd4, hk4⟩
      have hkw4 : Kept (fun _ => False) w w4 := HK3.out.1.trans (hk4.mono fun i _ (hi : i = p) => Or.inr (by have := HP.out.2; omega))
      have hrd4 : RD w4 q fresh none := HK3.out.2.1.kept hk4 (fun (h : q = p) => by have := HP.out.1; omega) (fun b h => by cases h)
      have HW3 := Lib.hid (rwrite_any q fresh none _ l0 l0 bs w4 hrd4 sane_fresh small_fresh (H.out.1.up hkw4) H.out.2.2.1 (by omega) (fun b off h0 h => by have := H.out.2.2.2.2.1 b off h0 h; exact ⟨by have := HP.out; omega, by simp⟩))
      unfold RPost at HW3
      rw [HX.out.2.2] at HW3
      have HR1 := Lib.hid (HR1.out.kept hk4 (fun g hg (hS : g = p) => by have := HKW.out.size; have := HP.out; have := HRW.out.lt.1; omega))
      have HR2 := Lib.hid hr2
      have HD4 := Lib.hid (And.intro hd4 (And.intro hkw4 hrd4.lt.1))
      clear hr2 hd4 hk4 hkw4 hrd4
      go_wp2_with fail
      refine HW3.out.mono ?_
      rintro e w5 ⟨u3, o3, rfl, ho3, hr5, he5, hf3⟩
      have hkq : Kept (fun i => i = q) w4 w5 := he5.1.mono (fun i _ h => by rcases h with h | h; (exact h); (cases h))
      have hkw5 : Kept (fun _ => False) w w5 := HD4.out.2.1.trans (hkq.mono fun i _ (hi : i = q) => Or.inr (by have := HP.out; omega))
      have hd5 : DAt w5 p X2.1 := HD4.out.1.kept hkq (fun (h : p = q) => by have := HP.out.1; omega)
      obtain ⟨b1, n1, cp1, rfl, cv1⟩ := res_str (HR1.out.kept hkq (fun g hg (hS : g = q) => by have := HRW.out.lt.1; omega))
      obtain ⟨b2, n2, cp2, rfl, cv2⟩ := res_str (HR2.out.kept hkq (fun g hg (hS : g = q) => by have := HK3.out.2.1.lt.1; omega))
      obtain ⟨b3, n3, cp3, rfl, cv3⟩ := res_str (Res.of_own ho3 hf3)
      have HK5 := Lib.hid (And.intro hkw5 hd5)
      clear ho3 hr5 he5 hf3 hkq hkw5 hd5
      rcases HE.out with ⟨q1, q2, q3, q4⟩ | ⟨q1, q2, q3, q4⟩
      · rw [q1, q2, q3]
        rw [← q4, ints_append, ← str_app] at cv3
        have e1 := write_len (s := fresh) (bs := bs.take l0)
        have e2 := write_len (s := X1.1) (bs := bs.drop l0)
        rw [HX.out.1] at e1
        rw [HX.out.2.1] at e2
        have e3 : (ints bs).length = l0 := H.out.1.1
        rw [ints_length] at e3
        have hsz : ¬ 9223372036854775807 < (strOfNums (ints X1.2.1)).size + (strOfNums (ints X2.2.1)).size := by
          rw [str_size, str_size, ints_length, ints_length]
          simp at e1 e2
          omega
        clear e1 e2 e3
        clear q1 q2 q3 q4
        go_wp2
        first
          | exact bodyPost_ret (v := .bool true) (by simp [results, Try.results5, go_sem]) rfl ⟨rfl, HK5.out.1⟩
          | skip
      · rw [q2, q3]
        have hd5 := HK5.out.2
        rw [q4] at hd5
        have HW6 := Lib.hid (write_any p broken a2 l2 c2 ms w5 hd5 sane_broken (H.out.2.1.up HK5.out.1) H.out.2.2.2.1 (by omega) (fun b off h0 h => by have := H.out.2.2.2.2.2.1 b off h0 h; have := HP.out; omega))
        unfold WPost at HW6
        rw [write_broken] at HW6
        clear cv1 cv2 cv3 q2 q3 q4 hd5
        rcases q1 with q1 | q1
        all_goals
          rw [q1]
          clear q1
          go_wp2_with fail
          refine HW6.out.mono ?_
          rintro e w6 ⟨u6, rfl, hr6, hd6, hk6⟩
          obtain ⟨b6, n6, cp6, rfl, hs6, -⟩ := hr6
          obtain rfl : 0 = n6 := hs6.1
          have HE6 := Lib.hid (end_any p broken w6 hd6)
          rw [fin_broken] at HE6
          have HK6 := Lib.hid (HK5.out.1.trans (hk6.mono fun i _ (hi : i = p) => Or.inr (by have := HP.out; omega)))
          clear hs6 hd6 hk6
          go_wp2_with fail
          refine HE6.out.mono ?_
          rintro e w7 ⟨u7, rfl, ho7, hd7, hk7, -⟩
          obtain ⟨b7, cp7, rfl, -⟩ := ho7.shape
          have HK7 := Lib.hid (HK6.out.trans (hk7.mono fun i _ (hi : i = p) => Or.inr (by have := HP.out; omega)))
          have HH := Lib.hid (held_any p _ _ _ _ _ w7 hd7.1)
          have HZ := Lib.hid (reset_any p _ _ _ _ _ w7 hd7.1)
          have l0' : (ints []).length = 0 := rfl
          have l1' : broken.wait.length = 0 := rfl
          rw [l1'] at HH
          rw [l0']
          have z00 : IntKind.i64.wrap 0 = 0 := by decide
          clear ho7 hd7 hk7
          go_wp2_with fail
          refine HH.out.mono ?_
          rintro e wh ⟨rfl, rfl⟩
          go_wp2_with fail
          refine HZ.out.mono ?_
          rintro e w8 ⟨rfl, hd8, hk8⟩
          have HK8 := Lib.hid (HK7.out.trans (hk8.mono fun i _ (hi : i = p) => Or.inr (by have := HP.out; omega)))
          have HW9 := Lib.hid (write_any p fresh (some ⟨w8.heap.size, 0, none⟩) 4 4 [81, 85, 74, 68] (w8.alloc (.cells #[.int .u8 81, .int .u8 85, .int .u8 74, .int .u8 68] 5 (4, 5))) ((fresh_dc hd8).kept ((Kept.refl (fun _ => False) w8).alloc _) id) sane_fresh (slAt_blk (blk_new w8 _) rfl rfl) (by decide) (by omega) (fun b off _ h => by cases h; have := (lt_of_blk hd8); omega))
          unfold WPost at HW9
          rw [write_abc] at HW9
          have HKA := Lib.hid (HK8.out.alloc (.cells #[.int .u8 81, .int .u8 85, .int .u8 74, .int .u8 68] 5 (4, 5)))
          clear hd8 hk8
          go_wp2_with fail
          refine HW9.out.mono ?_
          rintro e w9 ⟨u9, rfl, hr9, hd9, hk9⟩
          obtain ⟨b9, n9, cp9, rfl, cv9⟩ := res_str hr9
          rw [show strOfNums (ints [65, 66, 67]) = ⟨#[65, 66, 67]⟩ from rfl] at cv9
          have HK9 := Lib.hid (HKA.out.trans (hk9.mono fun i _ (hi : i = p) => Or.inr (by have := HP.out; omega)))
          clear hr9 hd9 hk9
          go_wp2
          exact bodyPost_ret (v := .bool true) (by simp [results, Try.results5, go_sem]) rfl ⟨rfl, HK9.out⟩
    · subst a0 TA
      go_enter Try.func5, Try.ntmps5
      go_wp2_with fail
      refine (known_any w).mono ?_
      rintro e w1 ⟨rfl, hk1⟩
      have HK1 := Lib.hid hk1
      clear hk1
      go_wp2_with fail
      refine (new_any w1).mono ?_
      rintro e w2 ⟨rfl, hd2, hk2⟩
      obtain ⟨p, hp⟩ : ∃ p, w1.heap.size = p := ⟨_, rfl⟩
      rw [hp] at hd2 ⊢
      obtain ⟨q, hq⟩ : ∃ q, w2.heap.size = q := ⟨_, rfl⟩
      have hpq : p < q := by rw [← hq]; exact (lt_of_blk hd2)
      have hwp : w.heap.size ≤ p := by rw [← hp]; exact HK1.out.size
      obtain ⟨W0, hW0⟩ : ∃ W0, w2.alloc (.cells #[.slice none 0 0, .bool false, .bool false] 30) = W0 := ⟨_, rfl⟩
      have hkW : Kept (fun _ => False) w W0 := by rw [← hW0]; exact (HK1.out.then hk2).alloc _
      have hdW : DAt W0 p fresh := by rw [← hW0]; exact (fresh_dc hd2).kept ((Kept.refl (fun _ => False) _).alloc _) id
      have hrW : RD W0 q fresh none := by rw [← hW0, ← hq]; exact rd_fresh w2
      have HKW := Lib.hid hkW
      have HRW := Lib.hid hrW
      have HP := Lib.hid (And.intro hpq hwp)
      have HW1 := Lib.hid (write_any p fresh _ l0 c0 (bs.take l0) W0 hdW sane_fresh (HFr.out.up hkW) (fun c hc => H.out.2.2.1 c (List.mem_of_mem_take hc)) (by omega) (fun b off h0 h => by have := H.out.2.2.2.2.1 b off (by omega) h; omega))
      unfold WPost at HW1
      rw [HX.out.1] at HW1
      clear hd2 hk2 hkW hdW hrW hpq hwp hp
      go_wp2_with fail
      try rw [hq]
      clear hW0 hq
      refine HW1.out.mono ?_
      rintro e w3 ⟨u1, rfl, hr1, hd3, hk3⟩
      have hkw3 : Kept (fun _ => False) w w3 := HKW.out.trans (hk3.mono fun i _ (hi : i = p) => Or.inr (by have := HP.out.2; omega))
      have hrd3 : RD w3 q fresh none := HRW.out.kept hk3 (fun (h : q = p) => by have := HP.out.1; omega) (fun b h => by cases h)
      have HW2 := Lib.hid (write_any p X1.1 _ (l0 - l0) (c0 - l0) (bs.drop l0) w3 hd3 (by rw [← HX.out.1]; exact write_sane _) (H.out.2.2.2.2.2.2.1.up hkw3) (fun c hc => H.out.2.2.1 c (List.mem_of_mem_drop hc)) (by omega) (fun b off h0 h => by have := H.out.2.2.2.2.2.2.2 b off h0 h; have := HP.out.2; omega))
      unfold WPost at HW2
      rw [HX.out.2.1] at HW2
      try simp only [Nat.sub_self] at HW2
      have HR1 := Lib.hid hr1
      have HK3 := Lib.hid (And.intro hkw3 (And.intro hrd3 hd3.lt))
      clear hr1 hd3 hk3 hkw3 hrd3
      go_wp2_with fail
      refine HW2.out.mono ?_
      rintro e w4 ⟨u2, rfl, hr2, hd4, hk4⟩
      have hkw4 : Kept (fun _ => False) w w4 := HK3.out.1.trans (hk4.mono fun i _ (hi : i = p) => Or.inr (by have := HP.out.2; omega))
      have hrd4 : RD w4 q fresh none := HK3.out.2.1.kept hk4 (fun (h : q = p) => by have := HP.out.1; omega) (fun b h => by cases h)
      have HW3 := Lib.hid (rwrite_any q fresh none _ l0 c0 bs w4 hrd4 sane_fresh small_fresh (H.out.1.up hkw4) H.out.2.2.1 (by omega) (fun b off h0 h => by have := H.out.2.2.2.2.1 b off h0 h; exact ⟨by have := HP.out; omega, by simp⟩))
      unfold RPost at HW3
      rw [HX.out.2.2] at HW3
      have HR1 := Lib.hid (HR1.out.kept hk4 (fun g hg (hS : g = p) => by have := HKW.out.size; have := HP.out; have := HRW.out.lt.1; omega))
      have HR2 := Lib.hid hr2
      have HD4 := Lib.hid (And.intro hd4 (And.intro hkw4 hrd4.lt.1))
      clear hr2 hd4 hk4 hkw4 hrd4
      go_wp2_with fail
      refine HW3.out.mono ?_
      rintro e w5 ⟨u3, o3, rfl, ho3, hr5, he5, hf3⟩
      have hkq : Kept (fun i => i = q) w4 w5 := he5.1.mono (fun i _ h => by rcases h with h | h; (exact h); (cases h))
      have hkw5 : Kept (fun _ => False) w w5 := HD4.out.2.1.trans (hkq.mono fun i _ (hi : i = q) => Or.inr (by have := HP.out; omega))
      have hd5 : DAt w5 p X2.1 := HD4.out.1.kept hkq (fun (h : p = q) => by have := HP.out.1; omega)
      obtain ⟨b1, n1, cp1, rfl, cv1⟩ := res_str (HR1.out.kept hkq (fun g hg (hS : g = q) => by have := HRW.out.lt.1; omega))
      obtain ⟨b2, n2, cp2, rfl, cv2⟩ := res_str (HR2.out.kept hkq (fun g hg (hS : g = q) => by have := HK3.out.2.1.lt.1; omega))
      obtain ⟨b3, n3, cp3, rfl, cv3⟩ := res_str (Res.of_own ho3 hf3)
      have HK5 := Lib.hid (And.intro hkw5 hd5)
      clear ho3 hr5 he5 hf3 hkq hkw5 hd5
      rcases HE.out with ⟨q1, q2, q3, q4⟩ | ⟨q1, q2, q3, q4⟩
      · rw [q1, q2, q3]
        rw [← q4, ints_append, ← str_app] at cv3
        have e1 := write_len (s := fresh) (bs := bs.take l0)
        have e2 := write_len (s := X1.1) (bs := bs.drop l0)
        rw [HX.out.1] at e1
        rw [HX.out.2.1] at e2
        have e3 : (ints bs).length = l0 := H.out.1.1
        rw [ints_length] at e3
        have hsz : ¬ 9223372036854775807 < (strOfNums (ints X1.2.1)).size + (strOfNums (ints X2.2.1)).size := by
          rw [str_size, str_size, ints_length, ints_length]
          simp at e1 e2
          omega
        clear e1 e2 e3
        clear q1 q2 q3 q4
        go_wp2
        first
          | exact bodyPost_ret (v := .bool true) (by simp [results, Try.results5, go_sem]) rfl ⟨rfl, HK5.out.1⟩
          | skip
      · rw [q2, q3]
        have hd5 := HK5.out.2
        rw [q4] at hd5
        have HW6 := Lib.hid (write_any p broken a2 l2 c2 ms w5 hd5 sane_broken (H.out.2.1.up HK5.out.1) H.out.2.2.2.1 (by omega) (fun b off h0 h => by have := H.out.2.2.2.2.2.1 b off h0 h; have := HP.out; omega))
        unfold WPost at HW6
        rw [write_broken] at HW6
        clear cv1 cv2 cv3 q2 q3 q4 hd5
        rcases q1 with q1 | q1
        all_goals
          rw [q1]
          clear q1
          go_wp2_with fail
          refine HW6.out.mono ?_
          rintro e w6 ⟨u6, rfl, hr6, hd6, hk6⟩
          obtain ⟨b6, n6, cp6, rfl, hs6, -⟩ := hr6
          obtain rfl : 0 = n6 := hs6.1
          have HE6 := Lib.hid (end_any p broken w6 hd6)
          rw [fin_broken] at HE6
          have HK6 := Lib.hid (HK5.out.1.trans (hk6.mono fun i _ (hi : i = p) => Or.inr (by have := HP.out; omega)))
          clear hs6 hd6 hk6
          go_wp2_with fail
          refine HE6.out.mono ?_
          rintro e w7 ⟨u7, rfl, ho7, hd7, hk7, -⟩
          obtain ⟨b7, cp7, rfl, -⟩ := ho7.shape
          have HK7 := Lib.hid (HK6.out.trans (hk7.mono fun i _ (hi : i = p) => Or.inr (by have := HP.out; omega)))
          have HH := Lib.hid (held_any p _ _ _ _ _ w7 hd7.1)
          have HZ := Lib.hid (reset_any p _ _ _ _ _ w7 hd7.1)
          have l0' : (ints []).length = 0 := rfl
          have l1' : broken.wait.length = 0 := rfl
          rw [l1'] at HH
          rw [l0']
          have z00 : IntKind.i64.wrap 0 = 0 := by decide
          clear ho7 hd7 hk7
          go_wp2_with fail
          refine HH.out.mono ?_
          rintro e wh ⟨rfl, rfl⟩
          go_wp2_with fail
          refine HZ.out.mono ?_
          rintro e w8 ⟨rfl, hd8, hk8⟩
          have HK8 := Lib.hid (HK7.out.trans (hk8.mono fun i _ (hi : i = p) => Or.inr (by have := HP.out; omega)))
          have HW9 := Lib.hid (write_any p fresh (some ⟨w8.heap.size, 0, none⟩) 4 4 [81, 85, 74, 68] (w8.alloc (.cells #[.int .u8 81, .int .u8 85, .int .u8 74, .int .u8 68] 5 (4, 5))) ((fresh_dc hd8).kept ((Kept.refl (fun _ => False) w8).alloc _) id) sane_fresh (slAt_blk (blk_new w8 _) rfl rfl) (by decide) (by omega) (fun b off _ h => by cases h; have := (lt_of_blk hd8); omega))
          unfold WPost at HW9
          rw [write_abc] at HW9
          have HKA := Lib.hid (HK8.out.alloc (.cells #[.int .u8 81, .int .u8 85, .int .u8 74, .int .u8 68] 5 (4, 5)))
          clear hd8 hk8
          go_wp2_with fail
          refine HW9.out.mono ?_
          rintro e w9 ⟨u9, rfl, hr9, hd9, hk9⟩
          obtain ⟨b9, n9, cp9, rfl, cv9⟩ := res_str hr9
          rw [show strOfNums (ints [65, 66, 67]) = ⟨#[65, 66, 67]⟩ from rfl] at cv9
          have HK9 := Lib.hid (HKA.out.trans (hk9.mono fun i _ (hi : i = p) => Or.inr (by have := HP.out; omega)))
          clear hr9 hd9 hk9
          go_wp2
          exact bodyPost_ret (v := .bool true) (by simp [results, Try.results5, go_sem]) rfl ⟨rfl, HK9.out⟩
  · subst cut
    have k1 : decide ((C : Int) < 0) = false := decide_eq_false (by omega)
    have k2 : decide ((l0 : Int) < (C : Int)) = false := decide_eq_false (by omega)
    rcases HT.out with ⟨hc, hta⟩ | ⟨hc, tb, toff, hta, htb⟩
    · subst c0 TA
      have hlc : l0 = C := by omega
      subst l0
      go_enter Try.func5, Try.ntmps5
      go_wp2_with fail
      refine (known_any w).mono ?_
      rintro e w1 ⟨rfl, hk1⟩
      have HK1 := Lib.hid hk1
      clear hk1
      go_wp2_with fail
      refine (new_any w1).mono ?_
      rintro e w2 ⟨rfl, hd2, hk2⟩
      obtain ⟨p, hp⟩ : ∃ p, w1.heap.size = p := ⟨_, rfl⟩
      rw [hp] at hd2 ⊢
      obtain ⟨q, hq⟩ : ∃ q, w2.heap.size = q := ⟨_, rfl⟩
      have hpq : p < q := by rw [← hq]; exact (lt_of_blk hd2)
      have hwp : w.heap.size ≤ p := by rw [← hp]; exact HK1.out.size
      obtain ⟨W0, hW0⟩ : ∃ W0, w2.alloc (.cells #[.slice none 0 0, .bool false, .bool false] 30) = W0 := ⟨_, rfl⟩
      have hkW : Kept (fun _ => False) w W0 := by rw [← hW0]; exact (HK1.out.then hk2).alloc _
      have hdW : DAt W0 p fresh := by rw [← hW0]; exact (fresh_dc hd2).kept ((Kept.refl (fun _ => False) _).alloc _) id
      have hrW : RD W0 q fresh none := by rw [← hW0, ← hq]; exact rd_fresh w2
      have HKW := Lib.hid hkW
      have HRW := Lib.hid hrW
      have HP := Lib.hid (And.intro hpq hwp)
      have HW1 := Lib.hid (write_any p fresh _ C C (bs.take C) W0 hdW sane_fresh (HFr.out.up hkW) (fun c hc => H.out.2.2.1 c (List.mem_of_mem_take hc)) (by omega) (fun b off h0 h => by have := H.out.2.2.2.2.1 b off (by omega) h; omega))
      unfold WPost at HW1
      rw [HX.out.1] at HW1
      clear hd2 hk2 hkW hdW hrW hpq hwp hp
      go_wp2_with fail
      try rw [hq]
      clear hW0 hq
      refine HW1.out.mono ?_
      rintro e w3 ⟨u1, rfl, hr1, hd3, hk3⟩
      have hkw3 : Kept (fun _ => False) w w3 := HKW.out.trans (hk3.mono fun i _ (hi : i = p) => Or.inr (by have := HP.out.2; omega))
      have hrd3 : RD w3 q fresh none := HRW.out.kept hk3 (fun (h : q = p) => by have := HP.out.1; omega) (fun b h => by cases h)
      have HW2 := Lib.hid (write_any p X1.1 _ (C - C) (C - C) (bs.drop C) w3 hd3 (by rw [← HX.out.1]; exact write_sane _) (H.out.2.2.2.2.2.2.1.up hkw3) (fun c hc => H.out.2.2.1 c (List.mem_of_mem_drop hc)) (by omega) (fun b off h0 h => by have := H.out.2.2.2.2.2.2.2 b off h0 h; have := HP.out.2; omega))
      unfold WPost at HW2
      rw [HX.out.2.1] at HW2
      try simp only [Nat.sub_self] at HW2
      have HR1 := Lib.hid hr1
      have HK3 := Lib.hid (And.intro hkw3 (And.intro hrd3 hd3.lt))
      clear hr1 hd3 hk3 hkw3 hrd3
      go_wp2_with fail
      refine HW2.out.mono ?_
      rintro e w4 ⟨u2, rfl, hr2, hd4, hk4⟩
      have hkw4 : Kept (fun _ => False) w w4 := HK3.out.1.trans (hk4.mono fun i _ (hi : i = p) => Or.inr (by have := HP.out.2; omega))
      have hrd4 : RD w4 q fresh none := HK3.out.2.1.kept hk4 (fun (h : q = p) => by have := HP.out.1; omega) (fun b h => by cases h)
      have HW3 := Lib.hid (rwrite_any q fresh none _ C C bs w4 hrd4 sane_fresh small_fresh (H.out.1.up hkw4) H.out.2.2.1 (by omega) (fun b off h0 h => by have := H.out.2.2.2.2.1 b off h0 h; exact ⟨by have := HP.out; omega, by simp⟩))
      unfold RPost at HW3
      rw [HX.out.2.2] at HW3
      have HR1 := Lib.hid (HR1.out.kept hk4 (fun g hg (hS : g = p) => by have := HKW.out.size; have := HP.out; have := HRW.out.lt.1; omega))
      have HR2 := Lib.hid hr2
      have HD4 := Lib.hid (And.intro hd4 (And.intro hkw4 hrd4.lt.1))
      clear hr2 hd4 hk4 hkw4 hrd4
      go_wp2_with fail
      refine HW3.out.mono ?_
      rintro e w5 ⟨u3, o3, rfl, ho3, hr5, he5, hf3⟩
      have hkq : Kept (fun i => i = q) w4 w5 := he5.1.mono (fun i _ h => by rcases h with h | h; (exact h); (cases h))
      have hkw5 : Kept (fun _ => False) w w5 := HD4.out.2.1.trans (hkq.mono fun i _ (hi : i = q) => Or.inr (by have := HP.out; omega))
      have hd5 : DAt w5 p X2.1 := HD4.out.1.kept hkq (fun (h : p = q) => by have := HP.out.1; omega)
      obtain ⟨b1, n1, cp1, rfl, cv1⟩ := res_str (HR1.out.kept hkq (fun g hg (hS : g = q) => by have := HRW.out.lt.1; omega))
      obtain ⟨b2, n2, cp2, rfl, cv2⟩ := res_str (HR2.out.kept hkq (fun g hg (hS : g = q) => by have := HK3.out.2.1.lt.1; omega))
      obtain ⟨b3, n3, cp3, rfl, cv3⟩ := res_str (Res.of_own ho3 hf3)
      have HK5 := Lib.hid (And.intro hkw5 hd5)
      clear ho3 hr5 he5 hf3 hkq hkw5 hd5
      rcases HE.out with ⟨q1, q2, q3, q4⟩ | ⟨q1, q2, q3, q4⟩
      · rw [q1, q2, q3]
        rw [← q4, ints_append, ← str_app] at cv3
        have e1 := write_len (s := fresh) (bs := bs.take C)
        have e2 := write_len (s := X1.1) (bs := bs.drop C)
        rw [HX.out.1] at e1
        rw [HX.out.2.1] at e2
        have e3 : (ints bs).length = C := H.out.1.1
        rw [ints_length] at e3
        have hsz : ¬ 9223372036854775807 < (strOfNums (ints X1.2.1)).size + (strOfNums (ints X2.2.1)).size := by
          rw [str_size, str_size, ints_length, ints_length]
          simp at e1 e2
          omega
        clear e1 e2 e3
        clear q1 q2 q3 q4
        go_wp2
        first
          | exact bodyPost_ret (v := .bool true) (by simp [results, Try.results5, go_sem]) rfl ⟨rfl, HK5.out.1⟩
          | skip
      · rw [q2, q3]
        have hd5 := HK5.out.2
        rw [q4] at hd5
        have HW6 := Lib.hid (write_any p broken a2 l2 c2 ms w5 hd5 sane_broken (H.out.2.1.up HK5.out.1) H.out.2.2.2.1 (by omega) (fun b off h0 h => by have := H.out.2.2.2.2.2.1 b off h0 h; have := HP.out; omega))
        unfold WPost at HW6
        rw [write_broken] at HW6
        clear cv1 cv2 cv3 q2 q3 q4 hd5
        rcases q1 with q1 | q1
        all_goals
          rw [q1]
          clear q1
          go_wp2_with fail
          refine HW6.out.mono ?_
          rintro e w6 ⟨u6, rfl, hr6, hd6, hk6⟩
          obtain ⟨b6, n6, cp6, rfl, hs6, -⟩ := hr6
          obtain rfl : 0 = n6 := hs6.1
          have HE6 := Lib.hid (end_any p broken w6 hd6)
          rw [fin_broken] at HE6
          have HK6 := Lib.hid (HK5.out.1.trans (hk6.mono fun i _ (hi : i = p) => Or.inr (by have := HP.out; omega)))
          clear hs6 hd6 hk6
          go_wp2_with fail
          refine HE6.out.mono ?_
          rintro e w7 ⟨u7, rfl, ho7, hd7, hk7, -⟩
          obtain ⟨b7, cp7, rfl, -⟩ := ho7.shape
          have HK7 := Lib.hid (HK6.out.trans (hk7.mono fun i _ (hi : i = p) => Or.inr (by have := HP.out; omega)))
          have HH := Lib.hid (held_any p _ _ _ _ _ w7 hd7.1)
          have HZ := Lib.hid (reset_any p _ _ _ _ _ w7 hd7.1)
          have C' : (ints []).length = 0 := rfl
          have l1' : broken.wait.length = 0 := rfl
          rw [l1'] at HH
          rw [C']
          have z00 : IntKind.i64.wrap 0 = 0 := by decide
          clear ho7 hd7 hk7
          go_wp2_with fail
          refine HH.out.mono ?_
          rintro e wh ⟨rfl, rfl⟩
          go_wp2_with fail
          refine HZ.out.mono ?_
          rintro e w8 ⟨rfl, hd8, hk8⟩
          have HK8 := Lib.hid (HK7.out.trans (hk8.mono fun i _ (hi : i = p) => Or.inr (by have := HP.out; omega)))
          have HW9 := Lib.hid (write_any p fresh (some ⟨w8.heap.size, 0, none⟩) 4 4 [81, 85, 74, 68] (w8.alloc (.cells #[.int .u8 81, .int .u8 85, .int .u8 74, .int .u8 68] 5 (4, 5))) ((fresh_dc hd8).kept ((Kept.refl (fun _ => False) w8).alloc _) id) sane_fresh (slAt_blk (blk_new w8 _) rfl rfl) (by decide) (by omega) (fun b off _ h => by cases h; have := (lt_of_blk hd8); omega))
          unfold WPost at HW9
          rw [write_abc] at HW9
          have HKA := Lib.hid (HK8.out.alloc (.cells #[.int .u8 81, .int .u8 85, .int .u8 74, .int .u8 68] 5 (4, 5)))
          clear hd8 hk8
          go_wp2_with fail
          refine HW9.out.mono ?_
          rintro e w9 ⟨u9, rfl, hr9, hd9, hk9⟩
          obtain ⟨b9, n9, cp9, rfl, cv9⟩ := res_str hr9
          rw [show strOfNums (ints [65, 66, 67]) = ⟨#[65, 66, 67]⟩ from rfl] at cv9
          have HK9 := Lib.hid (HKA.out.trans (hk9.mono fun i _ (hi : i = p) => Or.inr (by have := HP.out; omega)))
          clear hr9 hd9 hk9
          go_wp2
          exact bodyPost_ret (v := .bool true) (by simp [results, Try.results5, go_sem]) rfl ⟨rfl, HK9.out⟩
    · subst a0 TA
      go_enter Try.func5, Try.ntmps5
      go_wp2_with fail
      refine (known_any w).mono ?_
      rintro e w1 ⟨rfl, hk1⟩
      have HK1 := Lib.hid hk1
      clear hk1
      go_wp2_with fail
      refine (new_any w1).mono ?_
      rintro e w2 ⟨rfl, hd2, hk2⟩
      obtain ⟨p, hp⟩ : ∃ p, w1.heap.size = p := ⟨_, rfl⟩
      rw [hp] at hd2 ⊢
      obtain ⟨q, hq⟩ : ∃ q, w2.heap.size = q := ⟨_, rfl⟩
      have hpq : p < q := by rw [← hq]; exact (lt_of_blk hd2)
      have hwp : w.heap.size ≤ p := by rw [← hp]; exact HK1.out.size
      obtain ⟨W0, hW0⟩ : ∃ W0, w2.alloc (.cells #[.slice none 0 0, .bool false, .bool false] 30) = W0 := ⟨_, rfl⟩
      have hkW : Kept (fun _ => False) w W0 := by rw [← hW0]; exact (HK1.out.then hk2).alloc _
      have hdW : DAt W0 p fresh := by rw [← hW0]; exact (fresh_dc hd2).kept ((Kept.refl (fun _ => False) _).alloc _) id
      have hrW : RD W0 q fresh none := by rw [← hW0, ← hq]; exact rd_fresh w2
      have HKW := Lib.hid hkW
      have HRW := Lib.hid hrW
      have HP := Lib.hid (And.intro hpq hwp)
      have HW1 := Lib.hid (write_any p fresh _ C c0 (bs.take C) W0 hdW sane_fresh (HFr.out.up hkW) (fun c hc => H.out.2.2.1 c (List.mem_of_mem_take hc)) (by omega) (fun b off h0 h => by have := H.out.2.2.2.2.1 b off (by omega) h; omega))
      unfold WPost at HW1
      rw [HX.out.1] at HW1
      clear hd2 hk2 hkW hdW hrW hpq hwp hp
      go_wp2_with fail
      try rw [hq]
      clear hW0 hq
      refine HW1.out.mono ?_
      rintro e w3 ⟨u1, rfl, hr1, hd3, hk3⟩
      have hkw3 : Kept (fun _ => False) w w3 := HKW.out.trans (hk3.mono fun i _ (hi : i = p) => Or.inr (by have := HP.out.2; omega))
      have hrd3 : RD w3 q fresh none := HRW.out.kept hk3 (fun (h : q = p) => by have := HP.out.1; omega) (fun b h => by cases h)
      have HW2 := Lib.hid (write_any p X1.1 _ (l0 - C) (c0 - C) (bs.drop C) w3 hd3 (by rw [← HX.out.1]; exact write_sane _) (H.out.2.2.2.2.2.2.1.up hkw3) (fun c hc => H.out.2.2.1 c (List.mem_of_mem_drop hc)) (by omega) (fun b off h0 h => by have := H.out.2.2.2.2.2.2.2 b off h0 h; have := HP.out.2; omega))
      unfold WPost at HW2
      rw [HX.out.2.1] at HW2
      try simp only [Nat.sub_self] at HW2
      have HR1 := Lib.hid hr1
      have HK3 := Lib.hid (And.intro hkw3 (And.intro hrd3 hd3.lt))
      clear hr1 hd3 hk3 hkw3 hrd3
      go_wp2_with fail
      refine HW2.out.mono ?_
      rintro e w4 ⟨u2, rfl, hr2, hd4, hk4⟩
      have hkw4 : Kept (fun _ => False) w w4 := HK3.out.1.trans (hk4.mono fun i _ (hi : i = p) => Or.inr (by have := HP.out.2; omega))
      have hrd4 : RD w4 q fresh none := HK3.out.2.1.kept hk4 (fun (h : q = p) => by have := HP.out.1; omega) (fun b h => by cases h)
      have HW3 := Lib.hid (rwrite_any q fresh none _ l0 c0 bs w4 hrd4 sane_fresh small_fresh (H.out.1.up hkw4) H.out.2.2.1 (by omega) (fun b off h0 h => by have := H.out.2.2.2.2.1 b off h0 h; exact ⟨by have := HP.out; omega, by simp⟩))
      unfold RPost at HW3
      rw [HX.out.2.2] at HW3
      have HR1 := Lib.hid (HR1.out.kept hk4 (fun g hg (hS : g = p) => by have := HKW.out.size; have := HP.out; have := HRW.out.lt.1; omega))
      have HR2 := Lib.hid hr2
      have HD4 := Lib.hid (And.intro hd4 (And.intro hkw4 hrd4.lt.1))
      clear hr2 hd4 hk4 hkw4 hrd4
      go_wp2_with fail
      refine HW3.out.mono ?_
      rintro e w5 ⟨u3, o3, rfl, ho3, hr5, he5, hf3⟩
      have hkq : Kept (fun i => i = q) w4 w5 := he5.1.mono (fun i _ h => by rcases h with h | h; (exact h); (cases h))
      have hkw5 : Kept (fun _ => False) w w5 := HD4.out.2.1.trans (hkq.mono fun i _ (hi : i = q) => Or.inr (by have := HP.out; omega))
      have hd5 : DAt w5 p X2.1 := HD4.out.1.kept hkq (fun (h : p = q) => by have := HP.out.1; omega)
      obtain ⟨b1, n1, cp1, rfl, cv1⟩ := res_str (HR1.out.kept hkq (fun g hg (hS : g = q) => by have := HRW.out.lt.1; omega))
      obtain ⟨b2, n2, cp2, rfl, cv2⟩ := res_str (HR2.out.kept hkq (fun g hg (hS : g = q) => by have := HK3.out.2.1.lt.1; omega))
      obtain ⟨b3, n3, cp3, rfl, cv3⟩ := res_str (Res.of_own ho3 hf3)
      have HK5 := Lib.hid (And.intro hkw5 hd5)
      clear ho3 hr5 he5 hf3 hkq hkw5 hd5
      rcases HE.out with ⟨q1, q2, q3, q4⟩ | ⟨q1, q2, q3, q4⟩
      · rw [q1, q2, q3]
        rw [← q4, ints_append, ← str_app] at cv3
        have e1 := write_len (s := fresh) (bs := bs.take C)
        have e2 := write_len (s := X1.1) (bs := bs.drop C)
        rw [HX.out.1] at e1
        rw [HX.out.2.1] at e2
        have e3 : (ints bs).length = l0 := H.out.1.1
        rw [ints_length] at e3
        have hsz : ¬ 9223372036854775807 < (strOfNums (ints X1.2.1)).size + (strOfNums (ints X2.2.1)).size := by
          rw [str_size, str_size, ints_length, ints_length]
          simp at e1 e2
          omega
        clear e1 e2 e3
        clear q1 q2 q3 q4
        go_wp2
        first
          | exact bodyPost_ret (v := .bool true) (by simp [results, Try.results5, go_sem]) rfl ⟨rfl, HK5.out.1⟩
          | skip
      · rw [q2, q3]
        have hd5 := HK5.out.2
        rw [q4] at hd5
        have HW6 := Lib.hid (write_any p broken a2 l2 c2 ms w5 hd5 sane_broken (H.out.2.1.up HK5.out.1) H.out.2.2.2.1 (by omega) (fun b off h0 h => by have := H.out.2.2.2.2.2.1 b off h0 h; have := HP.out; omega))
        unfold WPost at HW6
        rw [write_broken] at HW6
        clear cv1 cv2 cv3 q2 q3 q4 hd5
        rcases q1 with q1 | q1
        all_goals
          rw [q1]
          clear q1
          go_wp2_with fail
          refine HW6.out.mono ?_
          rintro e w6 ⟨u6, rfl, hr6, hd6, hk6⟩
          obtain ⟨b6, n6, cp6, rfl, hs6, -⟩ := hr6
          obtain rfl : 0 = n6 := hs6.1
          have HE6 := Lib.hid (end_any p broken w6 hd6)
          rw [fin_broken] at HE6
          have HK6 := Lib.hid (HK5.out.1.trans (hk6.mono fun i _ (hi : i = p) => Or.inr (by have := HP.out; omega)))
          clear hs6 hd6 hk6
          go_wp2_with fail
          refine HE6.out.mono ?_
          rintro e w7 ⟨u7, rfl, ho7, hd7, hk7, -⟩
          obtain ⟨b7, cp7, rfl, -⟩ := ho7.shape
          have HK7 := Lib.hid (HK6.out.trans (hk7.mono fun i _ (hi : i = p) => Or.inr (by have := HP.out; omega)))
          have HH := Lib.hid (held_any p _ _ _ _ _ w7 hd7.1)
          have HZ := Lib.hid (reset_any p _ _ _ _ _ w7 hd7.1)
          have l0' : (ints []).length = 0 := rfl
          have l1' : broken.wait.length = 0 := rfl
          rw [l1'] at HH
          rw [l0']
          have z00 : IntKind.i64.wrap 0 = 0 := by decide
          clear ho7 hd7 hk7
          go_wp2_with fail
          refine HH.out.mono ?_
          rintro e wh ⟨rfl, rfl⟩
          go_wp2_with fail
          refine HZ.out.mono ?_
          rintro e w8 ⟨rfl, hd8, hk8⟩
          have HK8 := Lib.hid (HK7.out.trans (hk8.mono fun i _ (hi : i = p) => Or.inr (by have := HP.out; omega)))
          have HW9 := Lib.hid (write_any p fresh (some ⟨w8.heap.size, 0, none⟩) 4 4 [81, 85, 74, 68] (w8.alloc (.cells #[.int .u8 81, .int .u8 85, .int .u8 74, .int .u8 68] 5 (4, 5))) ((fresh_dc hd8).kept ((Kept.refl (fun _ => False) w8).alloc _) id) sane_fresh (slAt_blk (blk_new w8 _) rfl rfl) (by decide) (by omega) (fun b off _ h => by cases h; have := (lt_of_blk hd8); omega))
          unfold WPost at HW9
          rw [write_abc] at HW9
          have HKA := Lib.hid (HK8.out.alloc (.cells #[.int .u8 81, .int .u8 85, .int .u8 74, .int .u8 68] 5 (4, 5)))
          clear hd8 hk8
          go_wp2_with fail
          refine HW9.out.mono ?_
          rintro e w9 ⟨u9, rfl, hr9, hd9, hk9⟩
          obtain ⟨b9, n9, cp9, rfl, cv9⟩ := res_str hr9
          rw [show strOfNums (ints [65, 66, 67]) = ⟨#[65, 66, 67]⟩ from rfl] at cv9
          have HK9 := Lib.hid (HKA.out.trans (hk9.mono fun i _ (hi : i = p) => Or.inr (by have := HP.out; omega)))
          clear hr9 hd9 hk9
          go_wp2
          exact bodyPost_ret (v := .bool true) (by simp [results, Try.results5, go_sem]) rfl ⟨rfl, HK9.out⟩

set_option maxRecDepth 100000 in
set_option maxHeartbeats 4000000 in
theorem errors_long (a0 a2 : Option Addr) (l0 c0 l2 c2 : Nat) (cut : Int) (w : World) (h : 4096 < l0 ∨ 4096 < l2) :
    Calls Try.prog 5 #[.slice a0 l0 c0, .int .i64 cut, .slice a2 l2 c2] w fun e w' => e = .returned (.bool true) ∧ Kept (fun _ => False) w w' := by
  by_cases h0 : 4096 < l0
  · have g0 : decide (4096 < (l0 : Int)) = true := decide_eq_true (by omega)
    clear h h0
    go_enter Try.func5, Try.ntmps5
    go_wp2_with fail
    refine (known_any w).mono ?_
    rintro e w1 ⟨rfl, hk1⟩
    have HK1 := Lib.hid hk1
    clear hk1
    go_wp2
    exact bodyPost_ret (v := .bool true) (by simp [results, Try.results5, go_sem]) rfl ⟨rfl, HK1.out⟩
  · have g0 : decide (4096 < (l0 : Int)) = false := decide_eq_false (by omega)
    have g2 : decide (4096 < (l2 : Int)) = true := decide_eq_true (by omega)
    clear h h0
    go_enter Try.func5, Try.ntmps5
    go_wp2_with fail
    refine (known_any w).mono ?_
    rintro e w1 ⟨rfl, hk1⟩
    have HK1 := Lib.hid hk1
    clear hk1
    go_wp2
    exact bodyPost_ret (v := .bool true) (by simp [results, Try.results5, go_sem]) rfl ⟨rfl, HK1.out⟩
theorem law_errors {a0 a2 : Option Addr} {l0 c0 l2 c2 : Nat} {z0 z2 : List Int} {cut : Int} {w : World} (f0 : IsRow .u8 w a0 l0 c0 z0) (f1 : (Lit.int .i64 cut).wf = true) (f2 : IsRow .u8 w a2 l2 c2 z2) :
    Calls Try.prog 5 #[.slice a0 l0 c0, .int .i64 cut, .slice a2 l2 c2] w fun e w' => e = .returned (.bool true) ∧ Below w.heap.size w w' := by
  have hrow := f0
  obtain ⟨bs, s0, b0, hbl, k0, m0, n0, e0⟩ := row_ints f0
  obtain ⟨ms, s2, b2, -, k2, m2, n2, e2⟩ := row_ints f2
  have key : Calls Try.prog 5 #[.slice a0 l0 c0, .int .i64 cut, .slice a2 l2 c2] w fun e w' => e = .returned (.bool true) ∧ Kept (fun _ => False) w w' := by
    by_cases hl : 4096 < l0 ∨ 4096 < l2
    · exact errors_long a0 a2 l0 c0 l2 c2 cut w hl
    · obtain ⟨C, hC⟩ : ∃ C, (cut < 0 ∧ C = l0) ∨ ((l0 : Int) < cut ∧ C = l0) ∨ (cut = (C : Int) ∧ C ≤ l0) := by
        by_cases h1 : cut < 0
        · exact ⟨l0, .inl ⟨h1, rfl⟩⟩
        · by_cases h2 : (l0 : Int) < cut
          · exact ⟨l0, .inr (.inl ⟨h2, rfl⟩)⟩
          · exact ⟨cut.toNat, .inr (.inr ⟨by omega, by omega⟩)⟩
      have hCl : C ≤ l0 := by omega
      obtain ⟨TA, hT⟩ : ∃ TA, ((c0 = C ∧ TA = a0) ∨ (C < c0 ∧ ∃ b off, a0 = some ⟨b, off, none⟩ ∧ TA = some ⟨b, off + C, none⟩)) := by
        by_cases h1 : c0 = C
        · exact ⟨a0, .inl ⟨h1, rfl⟩⟩
        · rcases hrow with ⟨-, h2, h3, -⟩ | ⟨x, hx, -, -, hz, hc, -⟩
          · omega
          · have h4 := hc 0 (by omega)
            obtain ⟨b, off, spot⟩ := x
            have hs : spot = none := by simpa [Addr.add] using World.cell?_spot h4
            subst hs
            exact ⟨_, .inr ⟨by omega, b, off, hx, rfl⟩⟩
      refine errors_main a0 a2 l0 c0 l2 c2 C cut bs ms w s0 s2 b0 b2 n0 n2 (by omega) k0 m0 (by omega) e0 hC TA hT ?_ ?_
      · rcases hT with ⟨h1, rfl⟩ | ⟨h1, b, off, rfl, rfl⟩
        · exact ⟨by simp [ints]; omega, .inl (by omega)⟩
        · rw [← ints_drop]; exact s0.drop hCl
      · intro b off h0 h
        rcases hT with ⟨h1, rfl⟩ | ⟨h1, b', off', rfl, rfl⟩
        · exact n0 b off (by omega) h
        · cases h; exact n0 _ _ (by omega) rfl
  exact key.mono fun e w' ⟨h, k⟩ => ⟨h, k.below⟩
end Go.Proofs.Ytgmbjebighhgkaa
