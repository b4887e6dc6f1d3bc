/- BitsProducts: the walk of the law. -/
import Derived.Test.YtocahkmfopbdlaaKnown
namespace Go.Proofs.Ytocahkmfopbdlaa
open Go.RowKit Pl
set_option linter.unusedVariables false
def Bad (out v : Int) : Prop := v < 0 ∨ (0 < v ∧ 1099511627776 / v < out)
instance (out v : Int) : Decidable (Bad out v) := by unfold Bad; exact inferInstance
theorem mulGo_cons (out v : Int) (l : List Int) : mulGo out (v :: l) = if Bad out v then (0, false) else mulGo (out * v) l := by
  rw [mulGo]; rfl
theorem bad_iff {out v : Int} (h : 0 ≤ out) : ¬ Bad out v ↔ 0 ≤ v ∧ (out * v ≤ 1099511627776 ∨ v = 0) := by
  unfold Bad
  constructor
  · intro hb
    have hv : 0 ≤ v := by omega
    refine ⟨hv, ?_⟩
    by_cases h0 : v = 0
    · exact .inr h0
    · left
      have h1 : out ≤ 1099511627776 / v := by omega
      have h2 := Int.mul_le_mul_of_nonneg_right h1 hv
      have h3 := Int.ediv_mul_le 1099511627776 h0
      omega
  · rintro ⟨hv, h⟩ (h1 | ⟨h1, h2⟩)
    · omega
    · rcases h with h | h
      · have := (Int.le_ediv_iff_mul_le h1).2 h
        omega
      · omega
theorem mul2 (a b : Int) : mulGo 1 [a, b] = if 0 ≤ a ∧ a ≤ 1099511627776 ∧ 0 ≤ b ∧ (a * b ≤ 1099511627776 ∨ b = 0) then (a * b, true) else (0, false) := by
  rw [mulGo_cons]
  have h1 := bad_iff (out := 1) (v := a) (by omega)
  by_cases hb : Bad 1 a
  · rw [if_pos hb, if_neg (by intro h; exact (h1.2 ⟨h.1, by omega⟩) hb)]
  · have ha := h1.1 hb
    rw [if_neg hb, Int.one_mul, mulGo_cons]
    have h2 := bad_iff (out := a) (v := b) ha.1
    by_cases hb2 : Bad a b
    · rw [if_pos hb2, if_neg (by intro h; exact (h2.2 h.2.2) hb2)]
    · rw [if_neg hb2, if_pos ⟨ha.1, by omega, h2.1 hb2⟩]; rfl
/-- What the law says of products. -/
theorem products (a b c : Int) (x y z w : Int) (ok is good fine : Bool) (h1 : mulGo 1 [a, b] = (x, ok)) (h2 : mulGo 1 [b, a] = (y, is)) (h3 : mulGo 1 [a, b, c] = (z, good)) (h4 : mulGo 1 [x, c] = (w, fine)) :
    (ok = false → x = 0) ∧ (good = false → z = 0) ∧ (ok = true → is = true → x = y) ∧ (ok = is ∨ a = 0 ∨ b = 0) ∧ (good = true → ok = true ∧ z = w ∧ fine = true) := by
  rw [mul2] at h1 h2
  have e3 : mulGo 1 [a, b, c] = if (0 ≤ a ∧ a ≤ 1099511627776 ∧ 0 ≤ b ∧ (a * b ≤ 1099511627776 ∨ b = 0)) ∧ ¬ Bad (a * b) c then (a * b * c, true) else (0, false) := by
    rw [mulGo_cons]
    have h1 := bad_iff (out := 1) (v := a) (by omega)
    by_cases hb : Bad 1 a
    · rw [if_pos hb, if_neg (by intro h; exact (h1.2 ⟨h.1.1, by omega⟩) hb)]
    · have ha := h1.1 hb
      rw [if_neg hb, Int.one_mul, mulGo_cons]
      have h2 := bad_iff (out := a) (v := b) ha.1
      by_cases hb2 : Bad a b
      · rw [if_pos hb2, if_neg (by intro h; exact (h2.2 h.1.2.2) hb2)]
      · rw [if_neg hb2, mulGo_cons]
        by_cases hb3 : Bad (a * b) c
        · rw [if_pos hb3, if_neg (fun h => h.2 hb3)]
        · rw [if_neg hb3, if_pos ⟨⟨ha.1, by omega, h2.1 hb2⟩, hb3⟩]; rfl
  rw [e3] at h3
  by_cases c1 : 0 ≤ a ∧ a ≤ 1099511627776 ∧ 0 ≤ b ∧ (a * b ≤ 1099511627776 ∨ b = 0)
  · rw [if_pos c1] at h1
    obtain ⟨rfl, rfl⟩ := Prod.mk.inj h1
    have hab : 0 ≤ a * b := Int.mul_nonneg c1.1 c1.2.2.1
    have hab2 : a * b ≤ 1099511627776 := by
      rcases c1.2.2.2 with h | h
      · exact h
      · rw [h]; simp
    refine ⟨(fun h => by cases h), ?_, ?_, ?_, ?_⟩
    · intro hg
      by_cases hb3 : Bad (a * b) c
      · rw [if_neg (fun h => h.2 hb3)] at h3; exact (Prod.mk.inj h3).1.symm
      · rw [if_pos ⟨c1, hb3⟩] at h3; rw [← (Prod.mk.inj h3).2] at hg; cases hg
    · intro _ hi
      by_cases c2 : 0 ≤ b ∧ b ≤ 1099511627776 ∧ 0 ≤ a ∧ (b * a ≤ 1099511627776 ∨ a = 0)
      · rw [if_pos c2] at h2; rw [← (Prod.mk.inj h2).1, Int.mul_comm]
      · rw [if_neg c2] at h2; rw [← (Prod.mk.inj h2).2] at hi; cases hi
    · by_cases ha : a = 0
      · exact .inr (.inl ha)
      · by_cases hb : b = 0
        · exact .inr (.inr hb)
        · left
          have hb1 : b ≤ a * b := by have := Int.mul_le_mul_of_nonneg_right (show 1 ≤ a by omega) c1.2.2.1; omega
          rw [if_pos ⟨c1.2.2.1, by omega, c1.1, .inl (by rw [Int.mul_comm]; exact hab2)⟩] at h2
          exact (Prod.mk.inj h2).2
    · intro hg
      by_cases hb3 : Bad (a * b) c
      · rw [if_neg (fun h => h.2 hb3)] at h3; rw [← (Prod.mk.inj h3).2] at hg; cases hg
      · rw [if_pos ⟨c1, hb3⟩] at h3
        obtain ⟨rfl, -⟩ := Prod.mk.inj h3
        rw [mul2, if_pos ⟨hab, hab2, (bad_iff hab).1 hb3⟩] at h4
        exact ⟨rfl, (Prod.mk.inj h4).1, (Prod.mk.inj h4).2.symm⟩
  · rw [if_neg c1] at h1
    obtain ⟨rfl, rfl⟩ := Prod.mk.inj h1
    rw [if_neg (fun h => c1 h.1)] at h3
    obtain ⟨rfl, rfl⟩ := Prod.mk.inj h3
    refine ⟨fun _ => rfl, fun _ => rfl, (fun h => by cases h), ?_, (fun h => by cases h)⟩
    by_cases ha : a = 0
    · exact .inr (.inl ha)
    · by_cases hb : b = 0
      · exact .inr (.inr hb)
      · left
        rw [if_neg] at h2
        · exact (Prod.mk.inj h2).2
        · rintro ⟨q1, q2, q3, q4⟩
          apply c1
          have q5 : b * a ≤ 1099511627776 := by omega
          have ha1 : a ≤ b * a := by have := Int.mul_le_mul_of_nonneg_right (show 1 ≤ b by omega) q3; omega
          exact ⟨q3, by omega, q1, .inl (by rw [Int.mul_comm]; exact q5)⟩
theorem mulGo_bd : ∀ (l : List Int) {out : Int}, 0 ≤ out → out ≤ 1099511627776 → 0 ≤ (mulGo out l).1 ∧ (mulGo out l).1 ≤ 1099511627776
  | [], _, h0, h1 => ⟨h0, h1⟩
  | v :: l, out, h0, h1 => by
    rw [mulGo_cons]
    by_cases hb : Bad out v
    · rw [if_pos hb]; exact ⟨by omega, by omega⟩
    · rw [if_neg hb]; have h := mul_step h0 h1 hb; exact mulGo_bd l h.1 h.2
set_option maxRecDepth 100000 in
set_option maxHeartbeats 2000000 in
theorem products_go (a b c : Int) (w : World) (ha : -9223372036854775808 ≤ a ∧ a ≤ 9223372036854775807) (hb : -9223372036854775808 ≤ b ∧ b ≤ 9223372036854775807) (hc : -9223372036854775808 ≤ c ∧ c ≤ 9223372036854775807) :
    Calls Try.prog 4 #[.int .i64 a, .int .i64 b, .int .i64 c] w fun e w' => e = .returned (.bool true) ∧ Kept (fun _ => False) w w' := by
  obtain ⟨⟨x, ok⟩, hx⟩ : ∃ r, mulGo 1 [a, b] = r := ⟨_, rfl⟩
  obtain ⟨⟨y, is⟩, hy⟩ : ∃ r, mulGo 1 [b, a] = r := ⟨_, rfl⟩
  obtain ⟨⟨z, good⟩, hz⟩ : ∃ r, mulGo 1 [a, b, c] = r := ⟨_, rfl⟩
  obtain ⟨⟨u, fine⟩, hu⟩ : ∃ r, mulGo 1 [x, c] = r := ⟨_, rfl⟩
  obtain ⟨q1, q2, q3, q4, q5⟩ := products a b c x y z u ok is good fine hx hy hz hu
  have hxb := mulGo_bd [a, b] (out := 1) (by omega) (by omega)
  rw [hx] at hxb
  have m1 := fun (W : World) (g : Nat) (hg : W.heap[g]? = some (.cells #[.int .i64 a, .int .i64 b] 3)) => mul_any (some ⟨g, 0, none⟩) 2 2 [a, b] W (slAt_blk hg rfl rfl) (by decide) (by intro n hn; simp at hn; omega)
  have m2 := fun (W : World) (g : Nat) (hg : W.heap[g]? = some (.cells #[.int .i64 b, .int .i64 a] 3)) => mul_any (some ⟨g, 0, none⟩) 2 2 [b, a] W (slAt_blk hg rfl rfl) (by decide) (by intro n hn; simp at hn; omega)
  have m3 := fun (W : World) (g : Nat) (hg : W.heap[g]? = some (.cells #[.int .i64 a, .int .i64 b, .int .i64 c] 3)) => mul_any (some ⟨g, 0, none⟩) 3 3 [a, b, c] W (slAt_blk hg rfl rfl) (by decide) (by intro n hn; simp at hn; omega)
  have m4 := fun (W : World) (g : Nat) (hg : W.heap[g]? = some (.cells #[.int .i64 x, .int .i64 c] 3)) => mul_any (some ⟨g, 0, none⟩) 2 2 [x, c] W (slAt_blk hg rfl rfl) (by decide) (by intro n hn; simp at hn hxb; omega)
  rw [hx] at m1
  rw [hy] at m2
  rw [hz] at m3
  rw [hu] at m4
  have M1 := Lib.hid m1
  have M2 := Lib.hid m2
  have M3 := Lib.hid m3
  have M4 := Lib.hid m4
  clear m1 m2 m3 m4 hx hy hz hu hxb
  have key : (ok = true ∧ is = true ∧ x = y ∨ ok = false ∧ x = 0 ∧ is = false ∨ ok ≠ is ∧ (a = 0 ∨ b = 0) ∧ (ok = false → x = 0)) ∧ (good = true ∧ ok = true ∧ z = u ∧ fine = true ∨ good = false ∧ z = 0) := by
    constructor
    · cases ok <;> cases is <;> simp_all
    · cases good <;> simp_all
  clear q1 q2 q3 q4 q5
  obtain ⟨k1, k2⟩ := key
  have leaf : ∀ (hcase : (ok = true ∧ is = true ∧ x = y ∧ good = true ∧ z = u ∧ fine = true) ∨ (ok = true ∧ is = true ∧ x = y ∧ good = false ∧ z = 0) ∨ (ok = false ∧ x = 0 ∧ is = false ∧ good = false ∧ z = 0) ∨
      (ok = true ∧ is = false ∧ a = 0 ∧ good = true ∧ z = u ∧ fine = true) ∨ (ok = true ∧ is = false ∧ a = 0 ∧ good = false ∧ z = 0) ∨ (ok = false ∧ is = true ∧ x = 0 ∧ a = 0 ∧ good = false ∧ z = 0) ∨
      (ok = true ∧ is = false ∧ a ≠ 0 ∧ b = 0 ∧ good = true ∧ z = u ∧ fine = true) ∨ (ok = true ∧ is = false ∧ a ≠ 0 ∧ b = 0 ∧ good = false ∧ z = 0) ∨ (ok = false ∧ is = true ∧ x = 0 ∧ a ≠ 0 ∧ b = 0 ∧ good = false ∧ z = 0)),
      Calls Try.prog 4 #[.int .i64 a, .int .i64 b, .int .i64 c] w fun e w' => e = .returned (.bool true) ∧ Kept (fun _ => False) w w' := by
    clear k1 k2
    intro hcase
    rcases hcase with ⟨rfl, rfl, rfl, rfl, rfl, rfl⟩ | ⟨rfl, rfl, rfl, rfl, rfl⟩ | ⟨rfl, rfl, rfl, rfl, rfl⟩ | ⟨rfl, rfl, rfl, rfl, rfl, rfl⟩ | ⟨rfl, rfl, rfl, rfl, rfl⟩ | ⟨rfl, rfl, rfl, rfl, rfl, rfl⟩ | ⟨rfl, rfl, h0, rfl, rfl, rfl, rfl⟩ | ⟨rfl, rfl, h0, rfl, rfl, rfl⟩ | ⟨rfl, rfl, rfl, h0, rfl, rfl, rfl⟩
    all_goals
      go_enter Try.func4, Try.ntmps4
      go_wp2_with fail
      refine (known_any _).mono ?_; rintro e w0 ⟨rfl, hk0⟩
      go_wp2_with fail
      refine (M1.out _ _ (blk_at _ _ (by simp))).mono ?_; rintro e w' ⟨rfl, rfl⟩
      go_wp2_with fail
      refine (M2.out _ _ (blk_at _ _ (by simp))).mono ?_; rintro e w' ⟨rfl, rfl⟩
      go_wp2_with fail
      refine (M3.out _ _ (blk_at _ _ (by simp))).mono ?_; rintro e w' ⟨rfl, rfl⟩
      go_wp2_with fail
      refine (M4.out _ _ (blk_at _ _ (by simp))).mono ?_; rintro e w' ⟨rfl, rfl⟩
      go_wp2
      go_ret
      exact ⟨rfl, (((hk0.alloc _).alloc _).alloc _).alloc _⟩
  apply leaf
  rcases k1 with ⟨rfl, rfl, h⟩ | ⟨rfl, rfl, rfl⟩ | ⟨hne, hab, hx0⟩ <;> rcases k2 with ⟨rfl, h2, h3, h4⟩ | ⟨rfl, h3⟩ <;> first | (simp_all; done) | skip
  all_goals by_cases ha0 : a = 0 <;> cases ok <;> cases is <;> simp_all
theorem int_of_wf {n : Int} (h : (Lit.int .i64 n).wf = true) : -9223372036854775808 ≤ n ∧ n ≤ 9223372036854775807 := by
  simp [Lit.wf, IntKind.min, IntKind.max, IntKind.signed, IntKind.bits] at h
  omega
theorem products_any {a0 a1 a2 : Int} {w : World} (f0 : (Lit.int .i64 a0).wf = true) (f1 : (Lit.int .i64 a1).wf = true) (f2 : (Lit.int .i64 a2).wf = true) :
    Calls Try.prog 4 #[.int .i64 a0, .int .i64 a1, .int .i64 a2] w fun e w' => e = .returned (.bool true) ∧ Below w.heap.size w w' :=
  (products_go a0 a1 a2 w (int_of_wf f0) (int_of_wf f1) (int_of_wf f2)).mono fun _ _ h => ⟨h.1, h.2.below⟩
end Go.Proofs.Ytocahkmfopbdlaa
