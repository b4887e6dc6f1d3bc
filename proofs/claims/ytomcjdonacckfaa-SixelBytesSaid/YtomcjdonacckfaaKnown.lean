/- The example of the chapter: known; one or two decoders kept at hand. -/
import Derived.Test.YtomcjdonacckfaaEndD
import Derived.Test.YtomcjdonacckfaaFeedP
import Derived.Test.YtomcjdonacckfaaStr
import Derived.Lib.SlBytesConst
namespace Go.Proofs.Ytomcjdonacckfaa
open Go.RowKit
set_option linter.unusedVariables false
set_option linter.unusedSimpArgs false
/-- A decoder whose blocks are all new since B, and lie below T. -/
def One (B T : Nat) (w : World) (a : Nat) (d : Dec) : Prop := ∃ G, DOwn G w a d ∧ ∀ i, G i → B ≤ i ∧ i < T
theorem One.up {B T : Nat} {w w' : World} {a : Nat} {d : Dec} (h : One B T w a d) (hk : Kept (fun _ => False) w w') : One B T w' a d := by
  obtain ⟨G, h1, h2⟩ := h
  exact ⟨G, h1.kept hk (fun _ _ => id), h2⟩
/-- Bytes written. -/
theorem One.write {B T : Nat} {w : World} {a : Nat} {d : Dec} (h : One B T w a d) {M : Nat} (hok : DecOk M d) (a0 : Option Addr) (len cap : Nat) (bs : List Nat) (hs : SlAt .u8 w a0 len (ints bs)) (hby : ∀ c ∈ bs, c < 256) (hl : len ≤ 65536) (hB : B ≤ w.heap.size) (hna : ∀ b off, 0 < len → a0 = some ⟨b, off, none⟩ → b < w.heap.size ∧ (b < B ∨ T ≤ b)) :
    Calls Try.prog 18 #[.pointer (some ⟨a, 0, none⟩), .slice a0 len cap] w fun e w' => e = .returned (.int .i64 (if (d.feed bs).full = true then 6 else 0)) ∧ One B w'.heap.size w' a (d.feed bs) ∧ DecOk M (d.feed bs) ∧ Kept (fun i => B ≤ i ∧ i < T) w w' := by
  obtain ⟨G, h1, h2⟩ := h
  refine (write_any G d w a M a0 len cap bs h1 hok hs hby hl (fun b off h3 h4 => ⟨fun h9 => by have := h2 b h9; have := hna b off h3 h4; omega, (hna b off h3 h4).1⟩)).mono ?_
  rintro e w' ⟨he, G', h3, h4, h5⟩
  exact ⟨he, ⟨G', h3, fun i hi => ⟨by rcases h4 i hi with h | h; exact (h2 i h).1; omega, h3.lt i hi⟩⟩, feed_ok hok bs, h5.mono fun i _ hi => h2 i hi⟩
/-- The end. -/
theorem One.fin {B T : Nat} {w : World} {a : Nat} {d : Dec} (h : One B T w a d) {M : Nat} (hok : DecOk M d) (hB : B ≤ w.heap.size) :
    Calls Try.prog 19 #[.pointer (some ⟨a, 0, none⟩)] w fun e w' => ∃ s n cap, e = .returned (.tuple #[.agg #[.int .i64 d.fin.w, .int .i64 d.fin.h, .slice s n cap], .int .i64 d.fin.e]) ∧ SlAt .u8 w' s n d.fin.p ∧ n ≤ cap ∧ cap ≤ maxLen ∧ (s = none → n = 0 ∧ cap = 0) ∧ One B w'.heap.size w' a d.fin.d ∧ Kept (fun i => B ≤ i ∧ i < T) w w' ∧ ∀ b off, s = some ⟨b, off, none⟩ → w.heap.size ≤ b := by
  obtain ⟨G, h1, h2⟩ := h
  refine (end_any G d w a M h1 hok).mono ?_
  rintro e w' ⟨v, G', he, ho, h3, h4, h5, h6⟩
  obtain ⟨s, cap, rfl, hs, hl, hm, hn, hb⟩ := ho.shape
  exact ⟨s, _, cap, he, hs, hl, hm, hn, ⟨G', h3, fun i hi => ⟨by rcases h4 i hi with h | h; exact (h2 i h).1; omega, h3.lt i hi⟩⟩, h5.mono fun i _ hi => h2 i hi, fun b off h => (h6 b (hb b off h)).1⟩
theorem known_fin : (((Dec.new true 100 256).feed [35, 49, 59, 50, 59, 49, 48, 48, 59, 48, 59, 48, 64]).full, ((Dec.new true 100 256).feed [35, 49, 59, 50, 59, 49, 48, 48, 59, 48, 59, 48, 64]).fin.w, ((Dec.new true 100 256).feed [35, 49, 59, 50, 59, 49, 48, 48, 59, 48, 59, 48, 64]).fin.h, ((Dec.new true 100 256).feed [35, 49, 59, 50, 59, 49, 48, 48, 59, 48, 59, 48, 64]).fin.p, ((Dec.new true 100 256).feed [35, 49, 59, 50, 59, 49, 48, 48, 59, 48, 59, 48, 64]).fin.e) = (false, 1, 1, [255, 0, 0, 255], 0) := by kernel_rfl
theorem known_feed : ((Dec.new true 100 256).feed [35, 49, 59, 50, 59, 49, 48, 48, 59, 48, 59, 48, 64]).full = false ∧ ((Dec.new true 100 256).feed [35, 49, 59, 50, 59, 49, 48, 48, 59, 48, 59, 48, 64]).fin.w = 1 ∧ ((Dec.new true 100 256).feed [35, 49, 59, 50, 59, 49, 48, 48, 59, 48, 59, 48, 64]).fin.h = 1 ∧ ((Dec.new true 100 256).feed [35, 49, 59, 50, 59, 49, 48, 48, 59, 48, 59, 48, 64]).fin.p = [255, 0, 0, 255] ∧ ((Dec.new true 100 256).feed [35, 49, 59, 50, 59, 49, 48, 48, 59, 48, 59, 48, 64]).fin.e = 0 := by
  have h := known_fin
  simpa only [Prod.mk.injEq] using h
set_option maxRecDepth 100000 in
set_option maxHeartbeats 8000000 in
theorem known_any (w : World) : Calls Try.prog 10 #[] w fun e w' => e = .returned (.bool true) ∧ Kept (fun _ => False) w w' := by
  have kc := fun (w : World) (C : Array Value) (n c : Nat) => Lib.run_convert_bytes_const (P := Try.prog) w 30 5 C n c Try.underlying30 Try.underlying5
  go_enter Try.func10, Try.ntmps10
  go_wp2_with fail
  refine (new_any true 100 w (by omega)).mono ?_
  rintro e w1 ⟨rfl, hd1, hk1⟩
  obtain ⟨a, ha⟩ : ∃ a, w.heap.size = a := ⟨_, rfl⟩
  rw [ha] at hd1 ⊢
  have hsz : a < w1.heap.size := hd1.lt a rfl
  obtain ⟨w2, hw2⟩ : ∃ w2, w1.alloc (.cells #[.int .u8 35, .int .u8 49, .int .u8 59, .int .u8 50, .int .u8 59, .int .u8 49, .int .u8 48, .int .u8 48, .int .u8 59, .int .u8 48, .int .u8 59, .int .u8 48, .int .u8 64] 5 (13, 14)) = w2 := ⟨_, rfl⟩
  have hk12 : Kept (fun _ => False) w1 w2 := by rw [← hw2]; exact (Kept.refl _ _).alloc _
  have hsz2 : w2.heap.size = w1.heap.size + 1 := by rw [← hw2]; simp
  have hone : One a w1.heap.size w2 a (Dec.new true 100 256) := ⟨fun i => i = a, hd1.kept hk12 (fun _ _ => id), fun i hi => by omega⟩
  have HK1 := Lib.hid (hk1.then hk12)
  have HW := Lib.hid (hone.write (new_ok true 100 (by omega)) (some ⟨w1.heap.size, 0, none⟩) 13 13 [35, 49, 59, 50, 59, 49, 48, 48, 59, 48, 59, 48, 64] (by rw [← hw2]; exact slAt_blk (blk_new w1 _) rfl rfl) (by decide) (by omega) (by omega) (fun b off _ h => by cases h; exact ⟨by omega, .inr (Nat.le_refl _)⟩))
  have HA := Lib.hid (And.intro ha hsz)
  clear hd1 hk1 hsz hk12 hsz2 hone
  go_wp2_with fail
  refine HW.out.mono ?_
  rintro e w3 ⟨rfl, hone, hok, hk3⟩
  have HK3 := Lib.hid (HK1.out.trans (hk3.mono fun i _ hi => Or.inr (by rw [HA.out.1]; exact hi.1)))
  rw [known_feed.1] at *
  have HF := Lib.hid (hone.fin hok (by have := HK3.out.size; have := HA.out.1; omega))
  rw [known_feed.2.1, known_feed.2.2.1, known_feed.2.2.2.1, known_feed.2.2.2.2] at HF
  clear hone hok hk3
  go_wp2_with fail
  refine HF.out.mono ?_
  rintro e w4 ⟨s, n, cp, rfl, hs, -, -, -, -, hk4, -⟩
  have cv := run_str (P := Try.prog) Try.underlying30 Try.underlying5 Try.underlying9 (hs.kept ((Kept.refl (fun _ => False) w4).alloc (.cells #[.int .i64 1, .int .i64 1, .slice s n cp] 38)) (fun _ _ _ _ => id)) (len := n) (cap := cp)
  rw [show strOfNums [255, 0, 0, 255] = ⟨#[255, 0, 0, 255]⟩ from rfl] at cv
  have HK4 := Lib.hid (HK3.out.trans (hk4.mono fun i _ hi => Or.inr (by rw [HA.out.1]; exact hi.1)))
  clear hs hk4
  go_wp2
  refine bodyPost_ret (v := .bool true) (by simp [results, Try.results10, go_sem]) rfl ⟨rfl, HK4.out.alloc _⟩
end Go.Proofs.Ytomcjdonacckfaa
