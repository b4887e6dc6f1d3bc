/- New; the law's small ring of strings; what a ring of the last so many looks like. -/
import Derived.Test.YtdfenlonlpjkfaaRing
namespace Go.Proofs.Ytdfenlonlpjkfaa
open Go.RowKit
set_option linter.unusedVariables false
set_option linter.unusedSimpArgs false

set_option maxRecDepth 100000 in
set_option maxHeartbeats 4000000 in
theorem inew_yes (most : Nat) (w : World) (hm : most ≤ 65536) : Calls Try.prog 7 #[.int .i64 most] w fun e w' => e = .returned (.tuple #[.pointer (some ⟨w.heap.size, 0, none⟩), .int .i64 0]) ∧ RAt 48 3 w' w.heap.size most 0 0 [] none ∧ Kept (fun _ => False) w w' := by
  obtain ⟨V, hV⟩ : ∃ V, w.alloc (.cells #[.int .i64 most, .slice none 0 0, .int .i64 0, .int .i64 0] 48) = V := ⟨_, rfl⟩
  have HR := Lib.hid (show RAt 48 3 V w.heap.size most 0 0 [] none from ⟨.slice none 0 0, by rw [← hV]; exact blk_new _ _, OwnV.nil _ _, rfl, fun h => by cases h⟩)
  have HK := Lib.hid (show Kept (fun _ => False) w V by rw [← hV]; exact (Kept.refl _ w).alloc _)
  have g0 : decide ((most : Int) < 0) = false := decide_eq_false (by omega)
  have g1 : decide (65536 < (most : Int)) = false := decide_eq_false (by omega)
  go_enter Try.func7, Try.ntmps7
  go_wp2
  exact bodyPost_ret (v := .tuple #[.pointer (some ⟨w.heap.size, 0, none⟩), .int .i64 0]) (by simp [results, Try.results7, go_sem]) rfl ⟨rfl, HR.out, HK.out⟩

set_option maxRecDepth 100000 in
set_option maxHeartbeats 4000000 in
theorem snew_yes (most : Nat) (w : World) (hm : most ≤ 65536) : Calls Try.prog 19 #[.int .i64 most] w fun e w' => e = .returned (.tuple #[.pointer (some ⟨w.heap.size, 0, none⟩), .int .i64 0]) ∧ RAt 57 9 w' w.heap.size most 0 0 [] none ∧ Kept (fun _ => False) w w' := by
  obtain ⟨V, hV⟩ : ∃ V, w.alloc (.cells #[.int .i64 most, .slice none 0 0, .int .i64 0, .int .i64 0] 57) = V := ⟨_, rfl⟩
  have HR := Lib.hid (show RAt 57 9 V w.heap.size most 0 0 [] none from ⟨.slice none 0 0, by rw [← hV]; exact blk_new _ _, OwnV.nil _ _, rfl, fun h => by cases h⟩)
  have HK := Lib.hid (show Kept (fun _ => False) w V by rw [← hV]; exact (Kept.refl _ w).alloc _)
  have g0 : decide ((most : Int) < 0) = false := decide_eq_false (by omega)
  have g1 : decide (65536 < (most : Int)) = false := decide_eq_false (by omega)
  go_enter Try.func19, Try.ntmps19
  go_wp2
  exact bodyPost_ret (v := .tuple #[.pointer (some ⟨w.heap.size, 0, none⟩), .int .i64 0]) (by simp [results, Try.results19, go_sem]) rfl ⟨rfl, HR.out, HK.out⟩

set_option maxRecDepth 100000 in
set_option maxHeartbeats 4000000 in
theorem known_any (w : World) : Calls Try.prog 6 #[] w fun e w' => e = .returned (.bool true) ∧ Kept (fun _ => False) w w' := by
  go_enter Try.func6, Try.ntmps6
  go_wp2_with fail
  refine (snew_yes 2 _ (by omega)).mono ?_; rintro e w1 ⟨rfl, h1, k1⟩
  obtain ⟨q, hq⟩ : ∃ q, w.heap.size = q := ⟨_, rfl⟩
  rw [hq] at h1
  have H1 := Lib.hid h1
  have K1 := Lib.hid k1
  clear h1 k1
  rw [hq]
  go_wp2_with fail
  refine (spush_room q 2 0 [] none { data := #[97] } _ H1.out (by simp) (by omega)).mono ?_; rintro e w2 ⟨rfl, o2, h2, x2⟩
  have H2 := Lib.hid h2
  have X2 := Lib.hid x2
  clear h2 x2
  go_wp2_with fail
  refine (spush_room q 2 0 [.string { data := #[97] }] o2 { data := #[98] } _ H2.out (by simp) (by omega)).mono ?_; rintro e w3 ⟨rfl, o3, h3, x3⟩
  have H3 := Lib.hid h3
  have X3 := Lib.hid (X2.out.trans x3)
  clear h3 x3
  go_wp2_with fail
  refine (spush_full q 2 0 0 [.string { data := #[97] }, .string { data := #[98] }] o3 { data := #[99] } (.string { data := #[97] }) _ H3.out rfl (by omega) (by omega) (by omega) (by omega) rfl).mono ?_; rintro e w4 ⟨rfl, h4, x4⟩
  have H4 := Lib.hid (show RAt 57 9 w4 q 2 1 1 [.string { data := #[99] }, .string { data := #[98] }] o3 from h4)
  have X4 := Lib.hid (show Ext w1 q none o3 w4 from X3.out.trans ⟨x4, .inl rfl⟩)
  clear h4 x4
  go_wp2_with fail
  refine (sat_yes q 2 1 1 [.string { data := #[99] }, .string { data := #[98] }] o3 1 (.string { data := #[99] }) _ H4.out (by simp) (by simp) (by simp) rfl).mono ?_; rintro e w5 ⟨rfl, k5⟩
  have H5 := Lib.hid (H4.out.up k5)
  have K5 := Lib.hid (show Kept (fun _ => False) w w5 from (K1.out.trans (X4.out.1.mono fun i hi hs => hs.elim (fun h => Or.inr (by omega)) (fun h => by cases h))).then k5)
  clear k5
  go_wp2_with fail
  refine (slen_any q 2 1 1 [.string { data := #[99] }, .string { data := #[98] }] o3 _ H5.out).mono ?_; rintro e w6 ⟨rfl, rfl⟩
  go_wp2_with fail
  refine (sgone_any q 2 1 1 [.string { data := #[99] }, .string { data := #[98] }] o3 _ H5.out).mono ?_; rintro e w7 ⟨rfl, rfl⟩
  go_wp2
  go_ret
  exact ⟨rfl, K5.out⟩

theorem mod_two {m a k : Nat} (ha : a < m) (hk : k < m) : (a + k) % m = if a + k < m then a + k else a + k - m := by
  split
  · rename_i h; exact Nat.mod_eq_of_lt h
  · rename_i h
    rw [Nat.mod_eq_sub_mod (by omega), Nat.mod_eq_of_lt (by omega)]
/-- Of the first i of l the last ones are there, as many as there may be. -/
def Last (l : List Int) (most i : Nat) (xs : List Value) (at' : Nat) : Prop :=
  xs.length = min i most ∧ (i ≤ most → at' = 0) ∧ (0 < most → at' < most) ∧ ∀ k, k < min i most → xs[(at' + k) % (min i most)]? = some (.int .i64 (l.getD (i - min i most + k) 0))
theorem last_0 (l : List Int) (most : Nat) : Last l most 0 [] 0 := ⟨by simp, fun _ => rfl, id, fun k hk => by omega⟩
theorem last_zero (l : List Int) (i : Nat) {xs : List Value} {at' : Nat} (h : Last l 0 i xs at') : Last l 0 (i + 1) xs at' := ⟨by have := h.1; omega, fun h9 => by omega, fun h9 => by omega, fun k hk => by omega⟩
theorem last_room {l : List Int} {most i : Nat} {xs : List Value} {at' : Nat} (h : Last l most i xs at') (hi : i < most) : at' = 0 ∧ Last l most (i + 1) (xs ++ [.int .i64 (l.getD i 0)]) 0 := by
  obtain ⟨h1, h2, h3, h4⟩ := h
  have e := h2 (by omega)
  subst e
  have m1 : min i most = i := by omega
  have m2 : min (i + 1) most = i + 1 := by omega
  rw [m1] at h1 h4
  refine ⟨rfl, by rw [m2]; simp [h1], fun _ => rfl, fun _ => by omega, fun k hk => ?_⟩
  rw [m2] at hk ⊢
  rw [Nat.zero_add, Nat.mod_eq_of_lt hk, Nat.sub_self, Nat.zero_add]
  by_cases hki : k < i
  · have := h4 k hki
    rw [Nat.zero_add, Nat.mod_eq_of_lt hki, Nat.sub_self, Nat.zero_add] at this
    rw [List.getElem?_append_left (by omega)]; exact this
  · have : k = i := by omega
    subst this
    rw [List.getElem?_append_right (by omega), h1, Nat.sub_self]; rfl
theorem last_full {l : List Int} {most i : Nat} {xs : List Value} {at' : Nat} (h : Last l most i xs at') (hi : most ≤ i) (h0 : 0 < most) :
    xs.length = most ∧ at' < most ∧ xs[at']? = some (.int .i64 (l.getD (i - most) 0)) ∧ Last l most (i + 1) (xs.set at' (.int .i64 (l.getD i 0))) ((at' + 1) % most) := by
  obtain ⟨h1, h2, h3, h4⟩ := h
  have m1 : min i most = most := by omega
  have m2 : min (i + 1) most = most := by omega
  rw [m1] at h1 h4
  have ha := h3 h0
  have hn : (at' + 1) % most = if at' + 1 < most then at' + 1 else 0 := by
    split
    · rename_i h; exact Nat.mod_eq_of_lt h
    · rename_i h; rw [show at' + 1 = most by omega]; exact Nat.mod_self _
  refine ⟨h1, ha, ?_, ?_⟩
  · have := h4 0 h0
    rw [Nat.add_zero, Nat.mod_eq_of_lt ha, Nat.add_zero] at this
    exact this
  · have hlt : (at' + 1) % most < most := Nat.mod_lt _ h0
    refine ⟨by rw [m2, List.length_set]; exact h1, fun h9 => by omega, fun _ => hlt, fun k hk => ?_⟩
    rw [m2] at hk ⊢
    rw [mod_two hlt hk, hn]
    by_cases hk1 : k + 1 < most
    · have := h4 (k + 1) hk1
      rw [mod_two ha hk1] at this
      rw [List.getElem?_set, if_neg]
      · rw [show i + 1 - most + k = i - most + (k + 1) by omega, ← this]
        congr 1
        split <;> split <;> split <;> omega
      · split <;> split <;> omega
    · have : k = most - 1 := by omega
      subst this
      rw [List.getElem?_set, if_pos, if_pos (by omega), show i + 1 - most + (most - 1) = i by omega]
      split <;> split <;> omega

end Go.Proofs.Ytdfenlonlpjkfaa
