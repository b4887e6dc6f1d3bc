/- The plain law of rows of PNG: Paeth, a filter done and undone, samples of bits, passes. No program in sight. -/
namespace Go.Proofs.Ytgpgjpmgnbaneaa.Pl
def nearI (a b c x : Int) : Int := max (a + b - c - x) (-(a + b - c - x))
def farI (p x : Int) : Int := if p < x then x - p else p - x
theorem near_far (a b c x : Int) : nearI a b c x = farI (a + b - c) x := by
  unfold nearI farI
  split <;> omega
def paethI (a b c : Int) : Int := if nearI a b c a ≤ nearI a b c b ∧ nearI a b c a ≤ nearI a b c c then a else if nearI a b c b ≤ nearI a b c c then b else c
theorem paeth_one (a b c : Int) : paethI a b c = a ∨ paethI a b c = b ∨ paethI a b c = c := by
  unfold paethI
  split
  · exact .inl rfl
  · split
    · exact .inr (.inl rfl)
    · exact .inr (.inr rfl)
theorem paeth_byte {a b c : Int} (ha : 0 ≤ a ∧ a < 256) (hb : 0 ≤ b ∧ b < 256) (hc : 0 ≤ c ∧ c < 256) : 0 ≤ paethI a b c ∧ paethI a b c < 256 := by
  rcases paeth_one a b c with h | h | h <;> rw [h] <;> assumption
def guessI (kind a b c : Int) : Int := if kind = 1 then a else if kind = 2 then b else if kind = 3 then (a + b) / 2 else if kind = 4 then paethI a b c else 0
theorem guess_byte {kind a b c : Int} (ha : 0 ≤ a ∧ a < 256) (hb : 0 ≤ b ∧ b < 256) (hc : 0 ≤ c ∧ c < 256) : 0 ≤ guessI kind a b c ∧ guessI kind a b c < 256 := by
  have := paeth_byte ha hb hc
  unfold guessI
  split
  · omega
  · split
    · omega
    · split
      · omega
      · split <;> omega
def Bytes (xs : List Int) : Prop := ∀ n ∈ xs, 0 ≤ n ∧ n < 256
theorem Bytes.get {xs : List Int} (h : Bytes xs) (i : Nat) : 0 ≤ xs.getD i 0 ∧ xs.getD i 0 < 256 := by
  rw [List.getD_eq_getElem?_getD]
  by_cases hi : i < xs.length
  · rw [List.getElem?_eq_getElem hi]; exact h _ (List.getElem_mem hi)
  · rw [List.getElem?_eq_none (by omega)]; simp
/-- The byte so many places ahead; 0 if there is none. -/
def back (xs : List Int) (step i : Nat) : Int := if step ≤ i then xs.getD (i - step) 0 else 0
theorem back_byte {xs : List Int} (h : Bytes xs) (step i : Nat) : 0 ≤ back xs step i ∧ back xs step i < 256 := by
  unfold back; split
  · exact h.get _
  · omega
/-- What a filter says of byte i: 'prev' is the row so far as it stands undone. -/
def gAt (kind : Int) (prev ahead : List Int) (step i : Nat) : Int := guessI kind (back prev step i) (ahead.getD i 0) (back ahead step i)
theorem gAt_byte {kind : Int} {prev ahead : List Int} (hp : Bytes prev) (ha : Bytes ahead) (step i : Nat) : 0 ≤ gAt kind prev ahead step i ∧ gAt kind prev ahead step i < 256 :=
  guess_byte (back_byte hp _ _) (ha.get _) (back_byte ha _ _)
/-- The first n bytes, undone, and done. -/
def undoL (kind : Int) (row ahead : List Int) (step : Nat) : Nat → List Int
  | 0 => []
  | n + 1 => undoL kind row ahead step n ++ [(row.getD n 0 + gAt kind (undoL kind row ahead step n) ahead step n) % 256]
def doL (kind : Int) (row ahead : List Int) (step : Nat) : Nat → List Int
  | 0 => []
  | n + 1 => doL kind row ahead step n ++ [(row.getD n 0 - gAt kind row ahead step n) % 256]
theorem undoL_length (kind : Int) (row ahead : List Int) (step n : Nat) : (undoL kind row ahead step n).length = n := by
  induction n with
  | zero => rfl
  | succ n ih => simp [undoL, ih]
theorem doL_length (kind : Int) (row ahead : List Int) (step n : Nat) : (doL kind row ahead step n).length = n := by
  induction n with
  | zero => rfl
  | succ n ih => simp [doL, ih]
theorem undoL_bytes (kind : Int) (row ahead : List Int) (step n : Nat) : Bytes (undoL kind row ahead step n) := by
  induction n with
  | zero => intro x hx; cases hx
  | succ n ih =>
    intro x hx
    simp only [undoL, List.mem_append, List.mem_singleton] at hx
    rcases hx with h | rfl
    · exact ih x h
    · omega
theorem doL_bytes (kind : Int) (row ahead : List Int) (step n : Nat) : Bytes (doL kind row ahead step n) := by
  induction n with
  | zero => intro x hx; cases hx
  | succ n ih =>
    intro x hx
    simp only [doL, List.mem_append, List.mem_singleton] at hx
    rcases hx with h | rfl
    · exact ih x h
    · omega
theorem getD_left {a b : List Int} {i : Nat} (h : i < a.length) : (a ++ b).getD i 0 = a.getD i 0 := by simp [List.getD_eq_getElem?_getD, List.getElem?_append_left h]
theorem getD_right {a b : List Int} {i : Nat} (h : a.length ≤ i) : (a ++ b).getD i 0 = b.getD (i - a.length) 0 := by simp [List.getD_eq_getElem?_getD, List.getElem?_append_right h]
theorem doL_get (kind : Int) (row ahead : List Int) (step : Nat) : ∀ (n i : Nat), i < n → (doL kind row ahead step n).getD i 0 = (row.getD i 0 - gAt kind row ahead step i) % 256
  | n + 1, i, h => by
    simp only [doL]
    by_cases hi : i < n
    · rw [getD_left (by rw [doL_length]; exact hi)]; exact doL_get kind row ahead step n i hi
    · have : i = n := by omega
      subst this
      rw [getD_right (by rw [doL_length]; omega), doL_length]; simp
theorem undoL_get (kind : Int) (row ahead : List Int) (step : Nat) : ∀ (n i : Nat), i < n → (undoL kind row ahead step n).getD i 0 = (row.getD i 0 + gAt kind (undoL kind row ahead step i) ahead step i) % 256
  | n + 1, i, h => by
    simp only [undoL]
    by_cases hi : i < n
    · rw [getD_left (by rw [undoL_length]; exact hi)]; exact undoL_get kind row ahead step n i hi
    · have : i = n := by omega
      subst this
      rw [getD_right (by rw [undoL_length]; omega), undoL_length]; simp
theorem back_congr {xs ys : List Int} {step i : Nat} (hs : 1 ≤ step) (h : ∀ j, j < i → xs.getD j 0 = ys.getD j 0) : back xs step i = back ys step i := by
  unfold back
  split
  · exact h _ (by omega)
  · rfl
theorem undoL_pre (kind : Int) (row ahead : List Int) (step : Nat) (n m : Nat) (h : n ≤ m) : ∀ j, j < n → (undoL kind row ahead step m).getD j 0 = (undoL kind row ahead step n).getD j 0 := by
  intro j hj
  rw [undoL_get _ _ _ _ m j (by omega), undoL_get _ _ _ _ n j hj]
theorem gAt_congr {kind : Int} {p q ahead : List Int} {step i : Nat} (hs : 1 ≤ step) (h : ∀ j, j < i → p.getD j 0 = q.getD j 0) : gAt kind p ahead step i = gAt kind q ahead step i := by
  unfold gAt
  rw [back_congr hs h]
/-- Done, it is undone again. -/
theorem undo_do {kind : Int} {row ahead : List Int} {step : Nat} (hs : 1 ≤ step) (hb : Bytes row) : undoL kind (doL kind row ahead step row.length) ahead step row.length = row := by
  have key : ∀ n, n ≤ row.length → undoL kind (doL kind row ahead step row.length) ahead step n = row.take n := by
    intro n
    induction n with
    | zero => intro _; rfl
    | succ n ih =>
      intro hn
      have ih' := ih (by omega)
      simp only [undoL]
      rw [ih', doL_get _ _ _ _ row.length n (by omega), gAt_congr hs (p := row.take n) (q := row) (fun j hj => by simp [List.getD_eq_getElem?_getD, hj])]
      rw [List.take_succ_eq_append_getElem (by omega)]
      congr 2
      have h0 := hb row[n] (List.getElem_mem (by omega))
      rw [show row.getD n 0 = row[n] by simp [List.getD_eq_getElem?_getD, show n < row.length by omega]]
      omega
  rw [key _ (Nat.le_refl _), List.take_length]
/-- Undone, it is done again. -/
theorem do_undo {kind : Int} {row ahead : List Int} {step : Nat} (hs : 1 ≤ step) (hb : Bytes row) : doL kind (undoL kind row ahead step row.length) ahead step row.length = row := by
  apply List.ext_getElem?
  intro i
  by_cases hi : i < row.length
  · have h1 := doL_get kind (undoL kind row ahead step row.length) ahead step row.length i hi
    rw [undoL_get _ _ _ _ _ _ hi, gAt_congr hs (p := undoL kind row ahead step row.length) (q := undoL kind row ahead step i) (undoL_pre _ _ _ _ _ _ (by omega))] at h1
    have h0 := hb row[i] (List.getElem_mem hi)
    have hl : i < (doL kind (undoL kind row ahead step row.length) ahead step row.length).length := by rw [doL_length]; exact hi
    rw [List.getElem?_eq_getElem hl, List.getElem?_eq_getElem hi]
    rw [List.getD_eq_getElem?_getD, List.getElem?_eq_getElem hl, show row.getD i 0 = row[i] by simp [List.getD_eq_getElem?_getD, hi]] at h1
    simp only [Option.getD_some] at h1
    rw [h1]
    congr 1
    omega
  · rw [List.getElem?_eq_none (by rw [doL_length]; omega), List.getElem?_eq_none (by omega)]
/-! ### samples -/
/-- A bit of a row, the highest first. -/
def bitAt (row : List Nat) (p : Nat) : Nat := row.getD (p / 8) 0 / 2 ^ (7 - p % 8) % 2
def smp (row : List Nat) (p : Nat) : Nat → Nat
  | 0 => 0
  | k + 1 => 2 * smp row p k + bitAt row (p + k)
theorem bitAt_lt (row : List Nat) (p : Nat) : bitAt row p < 2 := Nat.mod_lt _ (by omega)
theorem smp_lt (row : List Nat) (p k : Nat) : smp row p k < 2 ^ k := by
  induction k with
  | zero => simp [smp]
  | succ k ih => have := bitAt_lt row (p + k); simp only [smp, Nat.pow_succ]; omega
theorem mod_join (y k : Nat) : 2 * (y / 2 % 2 ^ k) + y % 2 = y % 2 ^ (k + 1) := by
  rw [Nat.pow_succ, Nat.mul_comm (2 ^ k) 2, Nat.mod_mul]; omega
/-- Bits of one byte. -/
theorem smp_in (row : List Nat) (p k : Nat) (h : p % 8 + k ≤ 8) : smp row p k = row.getD (p / 8) 0 / 2 ^ (8 - p % 8 - k) % 2 ^ k := by
  induction k with
  | zero => simp [smp, Nat.mod_one]
  | succ k ih =>
    have hb : bitAt row (p + k) = row.getD (p / 8) 0 / 2 ^ (8 - p % 8 - (k + 1)) % 2 := by
      unfold bitAt
      rw [show (p + k) / 8 = p / 8 by omega, show 7 - (p + k) % 8 = 8 - p % 8 - (k + 1) by omega]
    simp only [smp]
    rw [ih (by omega), hb, ← mod_join, Nat.div_div_eq_div_mul, ← Nat.pow_succ, show (8 - p % 8 - (k + 1)).succ = 8 - p % 8 - k by omega]
theorem smp_add (row : List Nat) (p j k : Nat) : smp row p (j + k) = smp row p j * 2 ^ k + smp row (p + j) k := by
  induction k with
  | zero => simp [smp]
  | succ k ih => rw [← Nat.add_assoc]; simp only [smp]; rw [ih, Nat.pow_succ, Nat.add_assoc p j k, Nat.mul_add, Nat.mul_left_comm, Nat.mul_comm 2 (2 ^ k)]; omega
theorem smp16 (row : List Nat) (h : ∀ x ∈ row, x < 256) (i : Nat) : smp row (i * 16) 16 = row.getD (2 * i) 0 * 256 + row.getD (2 * i + 1) 0 := by
  have hx : ∀ j, row.getD j 0 < 256 := fun j => by
    rw [List.getD_eq_getElem?_getD]
    by_cases hj : j < row.length
    · rw [List.getElem?_eq_getElem hj]; exact h _ (List.getElem_mem hj)
    · rw [List.getElem?_eq_none (by omega)]; simp
  have h1 := hx (2 * i)
  have h2 := hx (2 * i + 1)
  rw [show (16 : Nat) = 8 + 8 from rfl, smp_add, smp_in _ _ _ (by omega), smp_in _ _ _ (by omega), show i * (8 + 8) / 8 = 2 * i by omega, show (i * (8 + 8) + 8) / 8 = 2 * i + 1 by omega, show i * (8 + 8) % 8 = 0 by omega, show (i * (8 + 8) + 8) % 8 = 0 by omega]
  simp only [Nat.sub_zero, Nat.sub_self, Nat.pow_zero, Nat.div_one]
  omega
def depthB (d : Int) : Bool := decide (d = 1 ∨ d = 2 ∨ d = 4 ∨ d = 8 ∨ d = 16)
theorem depthB_or {d : Int} (h : depthB d = true) : d = 1 ∨ d = 2 ∨ d = 4 ∨ d = 8 ∨ d = 16 := of_decide_eq_true h
/-- All samples of a row. -/
def smps (row : List Nat) (d n : Nat) : List Int := (List.range n).map fun i => (smp row (i * d) d : Int)
theorem smps_length (row : List Nat) (d n : Nat) : (smps row d n).length = n := by simp [smps]
theorem smps_get (row : List Nat) (d n i : Nat) (h : i < n) : (smps row d n).getD i 0 = (smp row (i * d) d : Int) := by simp [smps, List.getD_eq_getElem?_getD, h]
/-! ### passes -/
def sizeI (x dx w : Int) : Int := (w - x - 1) / dx + 1
def sizeB (x y dx dy w h : Int) : Bool := decide (1 ≤ w ∧ w ≤ 16384 ∧ 1 ≤ h ∧ h ≤ 16384 ∧ 0 ≤ x ∧ 0 ≤ y ∧ 1 ≤ dx ∧ 1 ≤ dy ∧ x < w ∧ y < h)
def sizeX (x y dx dy w h : Int) : Int := if sizeB x y dx dy w h then sizeI x dx w else 0
def sizeY (x y dx dy w h : Int) : Int := if sizeB x y dx dy w h then sizeI y dy h else 0
/-- So many columns of w lie at x, x + dx .. -/
def cols (x dx w : Nat) : Nat := if x < w then (w - x - 1) / dx + 1 else 0
theorem size_prod {x y dx dy w h : Nat} (hw : 1 ≤ w ∧ w ≤ 16384) (hh : 1 ≤ h ∧ h ≤ 16384) (hx : 1 ≤ dx) (hy : 1 ≤ dy) : sizeX x y dx dy w h * sizeY x y dx dy w h = ((cols x dx w * cols y dy h : Nat) : Int) := by
  unfold sizeX sizeY cols
  by_cases h1 : x < w
  · by_cases h2 : y < h
    · have hb : sizeB x y dx dy w h = true := decide_eq_true (by omega)
      simp only [hb, if_true, if_pos h1, if_pos h2, sizeI]
      rw [Int.natCast_mul]
      congr 1
      · rw [show (w : Int) - x - 1 = ((w - x - 1 : Nat) : Int) by omega]; simp
      · rw [show (h : Int) - y - 1 = ((h - y - 1 : Nat) : Int) by omega]; simp
    · have hb : sizeB x y dx dy w h = false := decide_eq_false (by omega)
      simp [hb, if_neg h2]
  · have hb : sizeB x y dx dy w h = false := decide_eq_false (by omega)
    simp [hb, if_neg h1]
/-- All passes have just the pixels. -/
theorem passes_all (w h : Nat) : cols 0 8 w * cols 0 8 h + cols 4 8 w * cols 0 8 h + cols 0 4 w * cols 4 8 h + cols 2 4 w * cols 0 4 h + cols 0 2 w * cols 2 4 h + cols 1 2 w * cols 0 2 h + cols 0 1 w * cols 1 2 h = w * h := by
  have a1 : cols 0 8 w + cols 4 8 w = cols 0 4 w := by unfold cols; split <;> split <;> omega
  have b1 : cols 0 8 h + cols 4 8 h = cols 0 4 h := by unfold cols; split <;> split <;> omega
  have a2 : cols 0 4 w + cols 2 4 w = cols 0 2 w := by unfold cols; split <;> split <;> omega
  have b2 : cols 0 4 h + cols 2 4 h = cols 0 2 h := by unfold cols; split <;> split <;> omega
  have a3 : cols 0 2 w + cols 1 2 w = w := by unfold cols; split <;> split <;> omega
  have b3 : cols 0 2 h + cols 1 2 h = h := by unfold cols; split <;> split <;> omega
  have a4 : cols 0 1 w = w := by unfold cols; split <;> omega
  rw [← Nat.add_mul, a1, ← Nat.mul_add, b1, ← Nat.add_mul, a2, ← Nat.mul_add, b2, ← Nat.add_mul, a3, a4, ← Nat.mul_add, b3]
end Go.Proofs.Ytgpgjpmgnbaneaa.Pl
