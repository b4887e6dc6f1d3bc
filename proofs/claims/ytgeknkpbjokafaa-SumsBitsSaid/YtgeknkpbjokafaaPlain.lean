/- The plain mathematics of both sums: a CRC-32 by four bits at a time is one by one bit at a time; a turned bit changes both sums. No program in sight. -/
namespace Go.Proofs.Ytgeknkpbjokafaa.Pl

/-- One bit of the CRC. -/
def cb (r : Nat) : Nat := if r % 2 = 1 then (r / 2) ^^^ 0xEDB88320 else r / 2
def cbn : Nat → Nat → Nat
  | 0, r => r
  | k + 1, r => cbn k (cb r)
def half : List Nat := [0x00000000, 0x1DB71064, 0x3B6E20C8, 0x26D930AC, 0x76DC4190, 0x6B6B51F4, 0x4DB26158, 0x5005713C,
    0xEDB88320, 0xF00F9344, 0xD6D6A3E8, 0xCB61B38C, 0x9B64C2B0, 0x86D3D2D4, 0xA00AE278, 0xBDBDF21C]
/-- Four bits at once, by the table. -/
def c4 (r : Nat) : Nat := (r / 16) ^^^ half.getD (r % 16) 0
def cbyte (r b : Nat) : Nat := cbn 8 (r ^^^ b)
def cbyte' (r b : Nat) : Nat := c4 (c4 (r ^^^ b))
def crcs (r : Nat) (l : List Nat) : Nat := l.foldl cbyte r
def adl (s : Nat × Nat) (b : Nat) : Nat × Nat := ((s.1 + b) % 65521, (s.2 + (s.1 + b) % 65521) % 65521)
def adls (s : Nat × Nat) (l : List Nat) : Nat × Nat := l.foldl adl s

theorem cb_lt {r : Nat} (h : r < 2 ^ 32) : cb r < 2 ^ 32 := by
  unfold cb
  split
  · exact Nat.xor_lt_two_pow (by omega) (by omega)
  · omega
theorem cbn_lt : ∀ (k : Nat) {r : Nat}, r < 2 ^ 32 → cbn k r < 2 ^ 32
  | 0, _, h => h
  | k + 1, _, h => cbn_lt k (cb_lt h)
theorem xor_mod2 (a b : Nat) : (a ^^^ b) % 2 = (a % 2 + b % 2) % 2 := by
  have := Nat.xor_mod_two_eq_one (a := a) (b := b)
  omega
theorem xor_div2 (a b : Nat) : (a ^^^ b) / 2 = a / 2 ^^^ b / 2 := by
  have := Nat.xor_div_two_pow (a := a) (b := b) (n := 1)
  simpa using this
theorem xor4 (a b p : Nat) : (a ^^^ p) ^^^ (b ^^^ p) = a ^^^ b := by
  rw [Nat.xor_assoc, Nat.xor_comm p, Nat.xor_assoc, Nat.xor_self, Nat.xor_zero]
theorem cb_xor (a b : Nat) : cb (a ^^^ b) = cb a ^^^ cb b := by
  unfold cb
  have h := xor_mod2 a b
  have h2 := xor_div2 a b
  rcases Nat.mod_two_eq_zero_or_one a with ha | ha <;> rcases Nat.mod_two_eq_zero_or_one b with hb | hb
  · have : (a ^^^ b) % 2 = 0 := by omega
    simp [ha, hb, this, h2]
  · have : (a ^^^ b) % 2 = 1 := by omega
    simp [ha, hb, this, h2, Nat.xor_assoc]
  · have : (a ^^^ b) % 2 = 1 := by omega
    simp only [ha, hb, this, h2, if_true]
    rw [if_neg (by omega), Nat.xor_assoc, Nat.xor_comm (b / 2), ← Nat.xor_assoc]
  · have : (a ^^^ b) % 2 = 0 := by omega
    simp only [ha, hb, this, h2, if_true]
    rw [if_neg (by omega), xor4]
theorem cbn_xor : ∀ (k a b : Nat), cbn k (a ^^^ b) = cbn k a ^^^ cbn k b
  | 0, _, _ => rfl
  | k + 1, a, b => by simp only [cbn]; rw [cb_xor, cbn_xor k]
theorem cb_even (q : Nat) : cb (2 * q) = q := by unfold cb; rw [if_neg (by omega)]; omega
theorem cbn4_16 (q : Nat) : cbn 4 (16 * q) = q := by
  simp only [cbn]
  rw [show 16 * q = 2 * (8 * q) by omega, cb_even, show 8 * q = 2 * (4 * q) by omega, cb_even, show 4 * q = 2 * (2 * q) by omega, cb_even, cb_even]
theorem split16 (x : Nat) : x = (16 * (x / 16)) ^^^ (x % 16) := by
  have h := Nat.two_pow_add_eq_or_of_lt (i := 4) (b := x % 16) (by omega) (x / 16)
  have e : 16 * (x / 16) + x % 16 = x := Nat.div_add_mod x 16
  have hx : 16 * (x / 16) ^^^ x % 16 = 16 * (x / 16) ||| x % 16 := by
    apply Nat.eq_of_testBit_eq
    intro i
    rw [Nat.testBit_xor, Nat.testBit_or]
    by_cases hi : i < 4
    · have : (16 * (x / 16)).testBit i = false := by
        rw [show (16 : Nat) = 2 ^ 4 from rfl, Nat.testBit_two_pow_mul]; simp; omega
      simp [this]
    · have : (x % 16).testBit i = false := by
        rw [show (16 : Nat) = 2 ^ 4 from rfl, Nat.testBit_mod_two_pow]; simp; omega
      simp [this]
  rw [hx]
  have : (2 ^ 4 : Nat) = 16 := rfl
  rw [this] at h
  omega
theorem half_eq : ∀ n, n < 16 → half.getD n 0 = cbn 4 n := by decide
theorem c4_eq (x : Nat) : c4 x = cbn 4 x := by
  conv => rhs; rw [split16 x]
  rw [cbn_xor, cbn4_16, ← half_eq _ (Nat.mod_lt _ (by omega))]
  rfl
theorem cbn_add : ∀ (k m r : Nat), cbn (k + m) r = cbn m (cbn k r)
  | 0, m, r => by simp [cbn]
  | k + 1, m, r => by rw [show k + 1 + m = (k + m) + 1 by omega]; simp only [cbn]; exact cbn_add k m _
theorem cbyte_eq (r b : Nat) : cbyte' r b = cbyte r b := by
  unfold cbyte' cbyte
  rw [c4_eq, c4_eq, ← cbn_add 4 4]
theorem c4_lt {r : Nat} (h : r < 2 ^ 32) : c4 r < 2 ^ 32 := by rw [c4_eq]; exact cbn_lt 4 h
theorem cbyte_lt {r b : Nat} (h : r < 2 ^ 32) (hb : b < 256) : cbyte r b < 2 ^ 32 := cbn_lt 8 (Nat.xor_lt_two_pow h (by omega))
theorem crcs_lt : ∀ (l : List Nat) {r : Nat}, r < 2 ^ 32 → (∀ b ∈ l, b < 256) → crcs r l < 2 ^ 32
  | [], _, h, _ => h
  | b :: l, _, h, hb => crcs_lt l (cbyte_lt h (hb b (by simp))) fun x hx => hb x (by simp [hx])
theorem crcs_append (r : Nat) (a b : List Nat) : crcs r (a ++ b) = crcs (crcs r a) b := List.foldl_append ..
theorem adls_append (s : Nat × Nat) (a b : List Nat) : adls s (a ++ b) = adls (adls s a) b := List.foldl_append ..
theorem adls_lt : ∀ (l : List Nat) {s : Nat × Nat}, s.1 < 65521 → s.2 < 65521 → (adls s l).1 < 65521 ∧ (adls s l).2 < 65521
  | [], _, h, h' => ⟨h, h'⟩
  | b :: l, s, _, _ => adls_lt l (s := adl s b) (Nat.mod_lt _ (by omega)) (Nat.mod_lt _ (by omega))

/-! ### a bit that is turned -/
theorem cb_ne {d : Nat} (h : d < 2 ^ 32) (h0 : d ≠ 0) : cb d ≠ 0 := by
  unfold cb
  split
  · intro he
    have : d / 2 = 0xEDB88320 := by
      have := congrArg (· ^^^ 0xEDB88320) he
      simpa [Nat.xor_assoc] using this
    omega
  · omega
theorem cbn_ne : ∀ (k : Nat) {d : Nat}, d < 2 ^ 32 → d ≠ 0 → cbn k d ≠ 0
  | 0, _, _, h => h
  | k + 1, _, h, h0 => cbn_ne k (cb_lt h) (cb_ne h h0)
theorem xor_ne {a b : Nat} (h : a ≠ b) : a ^^^ b ≠ 0 := by
  intro he
  have := congrArg (· ^^^ b) he
  simp [Nat.xor_assoc] at this
  exact h this
theorem cbn_inj (k : Nat) {a b : Nat} (ha : a < 2 ^ 32) (hb : b < 2 ^ 32) (h : a ≠ b) : cbn k a ≠ cbn k b := by
  intro he
  have h1 := cbn_ne k (Nat.xor_lt_two_pow ha hb) (xor_ne h)
  rw [cbn_xor, he, Nat.xor_self] at h1
  exact h1 rfl
theorem xor_cancel {a b x : Nat} (h : a ^^^ x = b ^^^ x) : a = b := by
  have := congrArg (· ^^^ x) h
  simpa [Nat.xor_assoc] using this
theorem cbyte_inj_state {a b x : Nat} (ha : a < 2 ^ 32) (hb : b < 2 ^ 32) (hx : x < 256) (h : a ≠ b) : cbyte a x ≠ cbyte b x :=
  cbn_inj 8 (Nat.xor_lt_two_pow ha (by omega)) (Nat.xor_lt_two_pow hb (by omega)) (fun he => h (xor_cancel he))
theorem cbyte_inj_byte {a x y : Nat} (ha : a < 2 ^ 32) (hx : x < 256) (hy : y < 256) (h : x ≠ y) : cbyte a x ≠ cbyte a y := by
  refine cbn_inj 8 (Nat.xor_lt_two_pow ha (by omega)) (Nat.xor_lt_two_pow ha (by omega)) (fun he => h ?_)
  rw [Nat.xor_comm a x, Nat.xor_comm a y] at he
  exact xor_cancel he
theorem crcs_ne : ∀ (l : List Nat) {a b : Nat}, a < 2 ^ 32 → b < 2 ^ 32 → (∀ x ∈ l, x < 256) → a ≠ b → crcs a l ≠ crcs b l
  | [], _, _, _, _, _, h => h
  | x :: l, _, _, ha, hb, hl, h =>
    crcs_ne l (cbyte_lt ha (hl x (by simp))) (cbyte_lt hb (hl x (by simp))) (fun y hy => hl y (by simp [hy])) (cbyte_inj_state ha hb (hl x (by simp)) h)
theorem set_split (l : List Nat) (i v : Nat) (h : i < l.length) : l = l.take i ++ l[i] :: l.drop (i + 1) ∧ l.set i v = l.take i ++ v :: l.drop (i + 1) := by
  constructor
  · conv => lhs; rw [← List.take_append_drop i l]
    rw [List.drop_eq_getElem_cons h]
  · rw [List.set_eq_take_append_cons_drop, if_pos h]
theorem crcs_set (l : List Nat) (i v r : Nat) (h : i < l.length) (hr : r < 2 ^ 32) (hl : ∀ x ∈ l, x < 256) (hv : v < 256) (hne : l[i] ≠ v) :
    crcs r l ≠ crcs r (l.set i v) := by
  obtain ⟨e1, e2⟩ := set_split l i v h
  have hx : l[i] < 256 := hl _ (List.getElem_mem h)
  have ht : ∀ x ∈ l.take i, x < 256 := fun x hx => hl x (List.mem_of_mem_take hx)
  have hd : ∀ x ∈ l.drop (i + 1), x < 256 := fun x hx => hl x (List.mem_of_mem_drop hx)
  rw [e2]
  conv => lhs; rw [e1]
  rw [crcs_append, crcs_append]
  have hs := crcs_lt (l.take i) hr ht
  exact crcs_ne (l.drop (i + 1)) (cbyte_lt hs hx) (cbyte_lt hs hv) hd (cbyte_inj_byte hs hx hv hne)
/-- Of Adler's first half: the sum of all. -/
theorem adls_fst : ∀ (l : List Nat) (s : Nat × Nat), s.1 < 65521 → (adls s l).1 = (s.1 + l.sum) % 65521
  | [], s, h => by simp [adls]; omega
  | b :: l, s, h => by
    have := adls_fst l (adl s b) (Nat.mod_lt _ (by omega))
    show (adls (adl s b) l).1 = _
    rw [this]
    simp only [adl, List.sum_cons]
    omega
theorem sum_set (l : List Nat) (i v : Nat) (h : i < l.length) : (l.set i v).sum + l[i] = l.sum + v := by
  obtain ⟨e1, e2⟩ := set_split l i v h
  rw [e2]
  conv => rhs; rw [e1]
  simp only [List.sum_append, List.sum_cons]
  omega
theorem adls_set (l : List Nat) (i v : Nat) (s : Nat × Nat) (hs : s.1 < 65521) (h : i < l.length) (hx : l[i] < 256) (hv : v < 256) (hne : l[i] ≠ v) :
    (adls s l).1 ≠ (adls s (l.set i v)).1 := by
  rw [adls_fst _ _ hs, adls_fst _ _ hs]
  have := sum_set l i v h
  omega
end Go.Proofs.Ytgeknkpbjokafaa.Pl
