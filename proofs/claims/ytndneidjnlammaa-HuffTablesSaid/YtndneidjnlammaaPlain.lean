/- The plain mathematics of bits: bytes as one number, the lowest first; bits of it; a product that does not go too far; bits turned round. No program in sight. -/
namespace Go.Proofs.Ytndneidjnlammaa.Pl
/-- Bytes as one number, the lowest first. -/
def val : List Nat → Nat
  | [] => 0
  | b :: l => b + 256 * val l
def Small (l : List Nat) : Prop := ∀ b ∈ l, b < 256
theorem val_append (a b : List Nat) : val (a ++ b) = val a + 256 ^ a.length * val b := by
  induction a with
  | nil => simp [val]
  | cons x a ih => simp only [List.cons_append, val, ih, List.length_cons, Nat.pow_succ]; rw [Nat.mul_add, ← Nat.mul_assoc, Nat.mul_comm 256 (256 ^ a.length)]; omega
theorem val_lt : ∀ (l : List Nat), Small l → val l < 256 ^ l.length
  | [], _ => by simp [val]
  | b :: l, h => by
    have h1 := val_lt l (fun x hx => h x (by simp [hx]))
    have h2 := h b (by simp)
    simp only [val, List.length_cons, Nat.pow_succ]
    omega
theorem Small.take {l : List Nat} (h : Small l) (k : Nat) : Small (l.take k) := fun b hb => h b (List.mem_of_mem_take hb)
theorem Small.drop {l : List Nat} (h : Small l) (k : Nat) : Small (l.drop k) := fun b hb => h b (List.mem_of_mem_drop hb)
theorem val_split (l : List Nat) (k : Nat) (hk : k ≤ l.length) : val l = val (l.take k) + 256 ^ k * val (l.drop k) := by
  conv => lhs; rw [← List.take_append_drop k l]
  rw [val_append, List.length_take, Nat.min_eq_left hk]
theorem val_drop (l : List Nat) (h : Small l) (k : Nat) (hk : k ≤ l.length) : val (l.drop k) = val l / 256 ^ k := by
  have h1 := val_split l k hk
  have h2 := val_lt _ (h.take k)
  rw [List.length_take, Nat.min_eq_left hk] at h2
  rw [h1, Nat.add_mul_div_left _ _ (Nat.pow_pos (by omega)), Nat.div_eq_of_lt h2, Nat.zero_add]
theorem val_take (l : List Nat) (h : Small l) (k : Nat) (hk : k ≤ l.length) : val (l.take k) = val l % 256 ^ k := by
  have h1 := val_split l k hk
  have h2 := val_lt _ (h.take k)
  rw [List.length_take, Nat.min_eq_left hk] at h2
  rw [h1, Nat.add_mul_mod_self_left, Nat.mod_eq_of_lt h2]
theorem pow256 (k : Nat) : 256 ^ k = 2 ^ (8 * k) := by rw [Nat.pow_mul]
/-- So many bits of bytes, from a place on. -/
def bitsOf (l : List Nat) (at_ n : Nat) : Nat := val l / 2 ^ at_ % 2 ^ n
theorem bitsOf_lt (l : List Nat) (at_ n : Nat) : bitsOf l at_ n < 2 ^ n := Nat.mod_lt _ (Nat.two_pow_pos n)
/-- What Peek gathers out of whole bytes is that. -/
theorem peek_eq (l : List Nat) (h : Small l) (at_ n m : Nat) (hm : at_ % 8 + n ≤ 8 * m) (hl : at_ / 8 + m ≤ l.length) :
    val ((l.drop (at_ / 8)).take m) / 2 ^ (at_ % 8) % 2 ^ n = bitsOf l at_ n := by
  rw [val_take _ (h.drop _) m (by simp; omega), val_drop l h _ (by omega), pow256, pow256]
  obtain ⟨r, hr⟩ : ∃ r, 8 * m = at_ % 8 + (n + r) := ⟨8 * m - at_ % 8 - n, by omega⟩
  rw [hr, Nat.pow_add, Nat.mod_mul_right_div_self, Nat.pow_add, Nat.mod_mul_right_mod, Nat.div_div_eq_div_mul, ← Nat.pow_add, show 8 * (at_ / 8) + at_ % 8 = at_ by omega]
  rfl
theorem or_shift (x y i : Nat) (hx : x < 2 ^ i) : x ||| y * 2 ^ i = x + y * 2 ^ i := by
  rw [Nat.or_comm, Nat.mul_comm, ← Nat.two_pow_add_eq_or_of_lt hx]; omega
theorem and_mask (x n : Nat) : x &&& (2 ^ n - 1) = x % 2 ^ n := Nat.and_two_pow_sub_one_eq_mod x n
/-! ### what a writer holds: bytes, and bits of one that is not whole -/
def wval (bs : List Nat) (held : Nat) : Nat := val bs + 256 ^ bs.length * held
theorem wval_shift (bs : List Nat) (held : Nat) : wval (bs ++ [held % 256]) (held / 256) = wval bs held := by
  unfold wval
  rw [val_append, List.length_append, List.length_singleton, Nat.pow_succ]
  simp only [val]
  have h := Nat.div_add_mod held 256
  have e : 256 ^ bs.length * held = 256 ^ bs.length * (held % 256) + 256 ^ bs.length * 256 * (held / 256) := by
    conv => lhs; rw [← h]
    rw [Nat.mul_add, Nat.mul_assoc]; omega
  rw [e]; simp; omega
theorem wval_put (bs : List Nat) (held n v : Nat) : wval bs (held + v * 2 ^ n) = wval bs held + v * 2 ^ (8 * bs.length + n) := by
  unfold wval
  rw [Nat.mul_add, Nat.pow_add, pow256, ← Nat.add_assoc, ← Nat.mul_assoc, Nat.mul_comm (2 ^ (8 * bs.length)) v, Nat.mul_assoc]
end Go.Proofs.Ytndneidjnlammaa.Pl
