/- Has: whether an image has a place; a sort of at most one place. -/
import Derived.Test.YtgbflcmageipdaaTab
namespace Go.Proofs.Ytgbflcmageipdaa
open Go.RowKit
set_option linter.unusedVariables false
set_option linter.unusedSimpArgs false
set_option maxRecDepth 100000 in
set_option maxHeartbeats 8000000 in
theorem hasc_any (im : Int) (p : Pl) (wd : World) (x0 : Nat) (h0 : wd.heap[x0]? = some (.cells #[.int .i64 im] 3 (0, 0))) :
    Calls Try.prog 26 #[p.val, .pointer (some ⟨x0, 0, none⟩)] wd fun e w' => e = .returned (.bool (p.im == im)) ∧ Kept (fun _ => False) wd w' := by
  obtain ⟨W, hW⟩ : ∃ W, wd.alloc (.cells p.cs 34) = W := ⟨_, rfl⟩
  have hk : Kept (fun _ => False) wd W := by rw [← hW]; exact (Kept.refl _ _).alloc _
  have hb : W.heap[wd.heap.size]? = some (.cells p.cs 34 (0, 0)) := by rw [← hW]; exact blk_new wd _
  obtain ⟨u0, -⟩ := blk14 hb
  obtain ⟨a0, -⟩ := blk1 (hk.blk h0 id)
  have HK := Lib.hid hk
  unfold Pl.cs at hW
  unfold Pl.val
  clear hk hb h0
  go_enter Try.func26, Try.ntmps26
  go_wp2
  go_ret
  exact ⟨rfl, HK.out⟩
theorem any_take (L : List Pl) (f : Pl → Bool) (k : Nat) (p : Pl) (hp : L[k]? = some p) (h : ∀ q ∈ L.take k, f q = false) (hf : f p = false) : ∀ q ∈ L.take (k + 1), f q = false := by
  intro q hq
  rw [List.take_add_one, hp] at hq
  rcases List.mem_append.1 hq with h1 | h1
  · exact h q h1
  · simp at h1; subst h1; exact hf
set_option maxRecDepth 100000 in
set_option maxHeartbeats 8000000 in
theorem index_any (im : Int) (a : Option Addr) (n cap : Nat) (L : List Pl) (W : World) (x0 : Nat) (hs : SlP W a n L) (hl : n ≤ 400) (h0 : W.heap[x0]? = some (.cells #[.int .i64 im] 3 (0, 0))) :
    Calls Try.prog 29 #[.slice a n cap, .func (.func 26) #[] #[.pointer (some ⟨x0, 0, none⟩)]] W fun e w' => ∃ r : Int, e = .returned (.int .i64 r) ∧ decide (0 ≤ r) = L.any (fun p => p.im == im) ∧ Kept (fun _ => False) W w' := by
  have HS := Lib.hid (And.intro hs h0)
  clear hs h0
  go_enter Try.func29, Try.ntmps29
  go_wp2
  go_loopg [5, 8] n (fun gg _ kv wr => ∃ k : Nat, n ≤ gg + k ∧ k ≤ n ∧ kv = .int .i64 (k : Int) ∧ (∀ q ∈ L.take k, (q.im == im) = false) ∧ Kept (fun _ => False) W wr)
  case atStart => exact ⟨0, by omega, by omega, rfl, (fun q h => by simp at h), Kept.refl _ _⟩
  case round =>
    obtain ⟨k, hgg, hkn, rfl, hno, hk⟩ := hrel
    have HK := Lib.hid (And.intro hk hno)
    by_cases hk1 : k < n
    · have g1 : decide (k < n) = true := decide_eq_true hk1
      have g1' : decide ((k : Int) < (n : Int)) = true := decide_eq_true (by omega)
      have wk : IntKind.i64.wrap ((k : Int) + 1) = (k : Int) + 1 := IntWalk.i64_in _ (by omega)
      obtain ⟨b, off, rfl, hc9⟩ := HS.out.1.2.resolve_left (by omega)
      have hkL : k < L.length := by rw [HS.out.1.1]; exact hk1
      obtain ⟨p, hp⟩ : ∃ p, L[k]? = some p := ⟨_, List.getElem?_eq_getElem hkL⟩
      have HP := Lib.hid hp
      obtain ⟨q0, q1, q2, q3, q4, q5, q6, q7, q8, q9, q10, q11, q12, q13⟩ := ((hc9 k p hp).kept hk id).cells
      have HQ := Lib.hid (hasc_any im p wr x0 (hk.blk HS.out.2 id))
      unfold Pl.val at HQ
      obtain ⟨bf, hbf⟩ : ∃ bf, (p.im == im) = bf := ⟨_, rfl⟩
      rw [hbf] at HQ
      have HBF := Lib.hid hbf
      clear hc9 hp hkL hbf hno hk
      cases bf with
      | true =>
        go_wp2_with fail
        refine HQ.out.mono ?_
        rintro e w2 ⟨rfl, hk2⟩
        have H2 := Lib.hid (HK.out.1.then hk2)
        clear hk2
        go_wp2
        go_ret
        exact ⟨_, rfl, by rw [decide_eq_true (by omega)]; exact (List.any_eq_true.2 ⟨p, List.mem_of_getElem? HP.out, HBF.out⟩).symm, H2.out⟩
      | false =>
        go_wp2_with fail
        refine HQ.out.mono ?_
        rintro e w2 ⟨rfl, hk2⟩
        have H2 := Lib.hid (HK.out.1.then hk2)
        clear hk2
        go_wp2
        go_roundg (gk - 1)
        case rel => exact ⟨k + 1, by omega, by omega, by simp, any_take L _ k p HP.out HK.out.2 HBF.out, H2.out⟩
        case measure => omega
    · obtain rfl : k = n := by omega
      have g1 : decide (k < k) = false := decide_eq_false hk1
      have hall : L.take k = L := List.take_of_length_le (Nat.le_of_eq HS.out.1.1)
      rw [hall] at HK
      clear hall hno hk
      go_wp2
      go_ret
      exact ⟨-1, rfl, by rw [show decide ((0 : Int) ≤ -1) = false by decide]; exact (List.any_eq_false.2 (fun q hq => by have := HK.out.2 q hq; rw [this]; simp)).symm, HK.out.1⟩
set_option maxRecDepth 100000 in
set_option maxHeartbeats 8000000 in
theorem contains_any (im : Int) (a : Option Addr) (n cap : Nat) (L : List Pl) (W : World) (x0 : Nat) (hs : SlP W a n L) (hl : n ≤ 400) (h0 : W.heap[x0]? = some (.cells #[.int .i64 im] 3 (0, 0))) :
    Calls Try.prog 25 #[.slice a n cap, .func (.func 26) #[] #[.pointer (some ⟨x0, 0, none⟩)]] W fun e w' => e = .returned (.bool (L.any fun p => p.im == im)) ∧ Kept (fun _ => False) W w' := by
  have HC := Lib.hid (index_any im a n cap L W x0 hs hl h0)
  clear hs h0
  go_enter Try.func25, Try.ntmps25
  go_wp2_with fail
  refine HC.out.mono ?_
  rintro e w2 ⟨r, rfl, hr, hk2⟩
  have H2 := Lib.hid hk2
  have HR := Lib.hid hr
  clear hk2 hr
  go_wp2
  go_ret
  exact ⟨congrArg (fun b => Ending.returned (.bool b)) HR.out, H2.out⟩
set_option maxRecDepth 100000 in
set_option maxHeartbeats 8000000 in
theorem has_any (B t : Nat) (L : List Pl) (im : Int) (w : World) (h : Tb B w t L) (hl : L.length ≤ 400) : Calls Try.prog 14 #[.pointer (some ⟨t, 0, none⟩), .int .i64 im] w fun e w' => e = .returned (.bool (L.any fun p => p.im == im)) ∧ Tb B w' t L ∧ Kept (fun _ => False) w w' := by
  obtain ⟨W, hW⟩ : ∃ W, w.alloc (.cells #[.int .i64 im] 3) = W := ⟨_, rfl⟩
  have hk : Kept (fun _ => False) w W := by rw [← hW]; exact (Kept.refl _ _).alloc _
  have hb : W.heap[w.heap.size]? = some (.cells #[.int .i64 im] 3 (0, 0)) := by rw [← hW]; exact blk_new w _
  have hT := h.up hk
  have hT0 := hT
  obtain ⟨-, v, h1, h2, -⟩ := hT0
  obtain ⟨a, cap, rfl, hs, -⟩ := h2.shape
  obtain ⟨c0, -⟩ := blk1 h1
  obtain ⟨n, hnn⟩ : ∃ n, L.length = n := ⟨_, rfl⟩
  rw [hnn] at hs c0 hl
  have HC := Lib.hid (contains_any im a n cap L W w.heap.size hs hl hb)
  have HT := Lib.hid (And.intro hT hk)
  clear h hT h1 h2 hs hb hk hnn
  go_enter Try.func14, Try.ntmps14
  go_wp2_with fail
  refine HC.out.mono ?_
  rintro e w2 ⟨rfl, hk2⟩
  have H2 := Lib.hid hk2
  clear hk2
  go_wp2
  go_ret
  exact ⟨rfl, HT.out.1.up H2.out, HT.out.2.then H2.out⟩
end Go.Proofs.Ytgbflcmageipdaa
