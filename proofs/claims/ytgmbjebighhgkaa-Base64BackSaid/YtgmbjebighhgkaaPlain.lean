/- The text of bytes in plain Lean: a sign's six bits, the state of a decoder, what a sign does to it, what is left in the end; the text of bytes. -/
namespace Go.Proofs.Ytgmbjebighhgkaa
/-- A sign's six bits; 64: none. -/
def val (c : Nat) : Nat :=
  if 65 ≤ c ∧ c ≤ 90 then c - 65 else if 97 ≤ c ∧ c ≤ 122 then c - 71 else if 48 ≤ c ∧ c ≤ 57 then c + 4 else if c = 43 then 62 else if c = 47 then 63 else 64
/-- The signs that are no '='. -/
def sgn (w : List Nat) : List Nat := w.takeWhile (fun c => decide (c ≠ 61))
def num (w : List Nat) : Nat := w.foldl (fun v c => v * 64 + val c) 0
def oct (v : Nat) : List Nat := [v / 65536 % 256, v / 256 % 256, v % 256]
/-- The bytes of two to four signs. -/
def out (s : List Nat) : List Nat := (oct (num s * 64 ^ (4 - s.length))).take (s.length * 6 / 8)
def clean (s : List Nat) : Bool := decide (num s % 2 ^ (s.length * 6 % 8) = 0)
structure St where
  wait : List Nat
  last : Bool
  bad : Bool
def fresh : St := ⟨[], false, false⟩
def broken : St := ⟨[], false, true⟩
def next (w : List Nat) : St × List Nat :=
  if w.length < 4 then (⟨w, false, false⟩, []) else (⟨[], decide ((sgn w).length < 4), false⟩, out (sgn w))
/-- One sign, of a decoder that is not broken. -/
def put (s : St) (c : Nat) : Option (St × List Nat) :=
  if s.last then none
  else if c = 61 then if s.wait.length < 2 ∨ clean (sgn s.wait) = false then none else some (next (s.wait ++ [c]))
  else if val c = 64 ∨ (sgn s.wait).length < s.wait.length then none else some (next (s.wait ++ [c]))
def run : St → List Nat → Option (St × List Nat)
  | s, [] => some (s, [])
  | s, c :: cs => match put s c with
    | none => none
    | some (t, x) => match run t cs with
      | none => none
      | some (u, y) => some (u, x ++ y)
/-- A piece: the state behind it, its bytes, the error. -/
def write (s : St) (b : List Nat) : St × List Nat × Nat :=
  if s.bad then (broken, [], 3) else match run s b with
    | none => (broken, [], 3)
    | some (t, x) => (t, x, 0)
def fin (s : St) : St × List Nat × Nat :=
  if s.bad ∨ s.wait.length = 1 ∨ (sgn s.wait).length < s.wait.length ∨ clean (sgn s.wait) = false then (broken, [], 3) else (fresh, out s.wait, 0)
/-- What a decoder's state always is. -/
def Fit (s : St) : Prop :=
  s.wait = [] ∨ (∃ a, s.wait = [a] ∧ val a < 64 ∧ a ≠ 61) ∨ (∃ a b, s.wait = [a, b] ∧ val a < 64 ∧ val b < 64 ∧ a ≠ 61 ∧ b ≠ 61) ∨
  (∃ a b c, s.wait = [a, b, c] ∧ val a < 64 ∧ val b < 64 ∧ val c < 64 ∧ a ≠ 61 ∧ b ≠ 61 ∧ c ≠ 61) ∨
  (∃ a b, s.wait = [a, b, 61] ∧ val a < 64 ∧ val b < 64 ∧ a ≠ 61 ∧ b ≠ 61 ∧ clean [a, b] = true)
theorem val_le (c : Nat) : val c ≤ 64 := by unfold val; repeat (first | omega | split)
theorem val_fill : val 61 = 64 := by decide
theorem fit_fresh : Fit fresh := .inl rfl
theorem fit_broken : Fit broken := .inl rfl
theorem sgn_nil : sgn [] = [] := rfl
theorem sgn_cons {a : Nat} (h : a ≠ 61) (l : List Nat) : sgn (a :: l) = a :: sgn l := by simp [sgn, h]
theorem sgn_fill (l : List Nat) : sgn (61 :: l) = [] := by simp [sgn]
theorem put_fit {s t : St} {c : Nat} {x : List Nat} (h : Fit s) (hp : put s c = some (t, x)) : Fit t := by
  unfold put at hp
  split at hp
  · cases hp
  · rcases h with e | ⟨a, e, ha, ha'⟩ | ⟨a, b, e, ha, hb, ha', hb'⟩ | ⟨a, b, d, e, ha, hb, hd, ha', hb', hd'⟩ | ⟨a, b, e, ha, hb, ha', hb', hcl⟩ <;> rw [e] at hp <;> (split at hp <;> (rename_i hc; split at hp <;> first | (cases hp; done) | skip)) <;> rename_i h2 <;> have hv := val_le c
    all_goals simp [next, sgn_cons, sgn_fill, sgn_nil, *] at hp h2
    all_goals first | (obtain ⟨rfl, -⟩ := hp) | skip
    all_goals simp [Fit]
    all_goals first | omega | exact ⟨a, c, ⟨rfl, rfl⟩, ha, by omega, ha', hc⟩ | exact .inr ⟨a, b, ⟨rfl, rfl⟩, ha, hb, ha', hb', h2⟩ | exact .inl ⟨a, b, c, ⟨rfl, rfl, rfl⟩, ha, hb, by omega, ha', hb', hc⟩
theorem run_append (s : St) (xs ys : List Nat) : run s (xs ++ ys) = match run s xs with
    | none => none
    | some (t, x) => match run t ys with
      | none => none
      | some (u, y) => some (u, x ++ y) := by
  induction xs generalizing s with
  | nil => simp only [List.nil_append, run]; cases h : run s ys <;> simp
  | cons c cs ih =>
    simp only [List.cons_append, run]
    cases hp : put s c with
    | none => rfl
    | some p =>
      obtain ⟨t, x⟩ := p
      simp only [ih]
      cases h1 : run t cs with
      | none => rfl
      | some q =>
        obtain ⟨u, y⟩ := q
        simp only
        cases h2 : run u ys with
        | none => rfl
        | some r => obtain ⟨v, z⟩ := r; simp
theorem next_bad (w : List Nat) : (next w).1.bad = false := by unfold next; split <;> rfl
theorem put_bad {s t : St} {c : Nat} {x : List Nat} (h : put s c = some (t, x)) : t.bad = false := by
  have key : ∀ w, some (next w) = some (t, x) → t.bad = false := fun w h => by
    have h2 := next_bad w
    rw [Option.some.inj h] at h2
    exact h2
  unfold put at h
  split at h
  · cases h
  · split at h
    · split at h
      · cases h
      · exact key _ h
    · split at h
      · cases h
      · exact key _ h
theorem run_bad {s t : St} {cs x : List Nat} (hs : s.bad = false) (h : run s cs = some (t, x)) : t.bad = false := by
  induction cs generalizing s t x with
  | nil => cases h; exact hs
  | cons c cs ih =>
    simp only [run] at h
    cases hp : put s c with
    | none => rw [hp] at h; cases h
    | some p =>
      obtain ⟨t1, x1⟩ := p
      rw [hp] at h
      simp only at h
      cases h1 : run t1 cs with
      | none => rw [h1] at h; cases h
      | some q =>
        obtain ⟨u, y⟩ := q
        rw [h1] at h
        cases h
        exact ih (put_bad hp) h1
theorem run_fit {s t : St} {cs x : List Nat} (hs : Fit s) (h : run s cs = some (t, x)) : Fit t := by
  induction cs generalizing s t x with
  | nil => cases h; exact hs
  | cons c cs ih =>
    simp only [run] at h
    cases hp : put s c with
    | none => rw [hp] at h; cases h
    | some p =>
      obtain ⟨t1, x1⟩ := p
      rw [hp] at h
      simp only at h
      cases h1 : run t1 cs with
      | none => rw [h1] at h; cases h
      | some q =>
        obtain ⟨u, y⟩ := q
        rw [h1] at h
        cases h
        exact ih (put_fit hs hp) h1
theorem write_fit {s : St} (hs : Fit s) (b : List Nat) : Fit (write s b).1 := by
  unfold write
  split
  · exact fit_broken
  · cases h : run s b with
    | none => exact fit_broken
    | some p => obtain ⟨t, x⟩ := p; exact run_fit hs h
theorem fin_fit (s : St) : Fit (fin s).1 := by
  unfold fin
  split
  · exact fit_broken
  · exact fit_fresh
/-! ### bytes as text -/
def sign (v : Nat) : Nat := if v < 26 then v + 65 else if v < 52 then v + 71 else if v < 62 then v - 4 else if v = 62 then 43 else 47
theorem val_sign {v : Nat} (h : v < 64) : val (sign v) = v := by unfold sign val; repeat (first | omega | split)
theorem sign_ne (v : Nat) (h : v < 64) : sign v ≠ 61 := by unfold sign; repeat (first | omega | split)
def four (v : Nat) : List Nat := [sign (v / 262144 % 64), sign (v / 4096 % 64), sign (v / 64 % 64), sign (v % 64)]
/-- A piece of one to three bytes. -/
def word (x : List Nat) : Nat := x.getD 0 0 * 65536 + x.getD 1 0 * 256 + x.getD 2 0
def group (x : List Nat) : List Nat := (four (word x)).take (x.length + 1) ++ List.replicate (3 - x.length) 61
def enc (b : List Nat) : List Nat :=
  match b with
  | [] => []
  | [a] => group [a]
  | [a, b] => group [a, b]
  | a :: b :: c :: r => group [a, b, c] ++ enc r
def bareOf : List Nat → List Nat
  | [] => []
  | [a] => (four (word [a])).take 2
  | [a, b] => (four (word [a, b])).take 3
  | a :: b :: c :: r => group [a, b, c] ++ bareOf r
theorem put_next {w : List Nat} {c : Nat} (hc : val c < 64) (hw : sgn w = w) : put ⟨w, false, false⟩ c = some (next (w ++ [c])) := by
  have : c ≠ 61 := by rintro rfl; rw [val_fill] at hc; omega
  unfold put
  rw [hw]
  simp [this]
  omega
theorem sgn_all {w : List Nat} (h : ∀ c ∈ w, c ≠ 61) : sgn w = w := by
  induction w with
  | nil => rfl
  | cons a w ih => rw [sgn_cons (h a (by simp)), ih (fun c hc => h c (by simp [hc]))]
theorem ne_of_val {c : Nat} (h : val c < 64) : c ≠ 61 := by rintro rfl; rw [val_fill] at h; omega
theorem run_full {a b c d : Nat} (ha : val a < 64) (hb : val b < 64) (hc : val c < 64) (hd : val d < 64) : run fresh [a, b, c, d] = some (fresh, out [a, b, c, d]) := by
  have na := ne_of_val ha; have nb := ne_of_val hb; have nc := ne_of_val hc; have nd := ne_of_val hd
  have h1 := put_next (w := []) ha rfl
  have h2 := put_next (w := [a]) hb (sgn_all (by simp [na]))
  have h3 := put_next (w := [a, b]) hc (sgn_all (by simp [na, nb]))
  have h4 := put_next (w := [a, b, c]) hd (sgn_all (by simp [na, nb, nc]))
  simp [next] at h1 h2 h3 h4
  simp [run, fresh, h1, h2, h3, h4, sgn_cons, sgn_nil, na, nb, nc, nd]
theorem run_two {a b : Nat} (ha : val a < 64) (hb : val b < 64) : run fresh [a, b] = some (⟨[a, b], false, false⟩, []) := by
  have na := ne_of_val ha; have nb := ne_of_val hb
  have h1 := put_next (w := []) ha rfl
  have h2 := put_next (w := [a]) hb (sgn_all (by simp [na]))
  simp [next] at h1 h2
  simp [run, fresh, h1, h2]
theorem run_three {a b c : Nat} (ha : val a < 64) (hb : val b < 64) (hc : val c < 64) : run fresh [a, b, c] = some (⟨[a, b, c], false, false⟩, []) := by
  have na := ne_of_val ha; have nb := ne_of_val hb; have nc := ne_of_val hc
  have h1 := put_next (w := []) ha rfl
  have h2 := put_next (w := [a]) hb (sgn_all (by simp [na]))
  have h3 := put_next (w := [a, b]) hc (sgn_all (by simp [na, nb]))
  simp [next] at h1 h2 h3
  simp [run, fresh, h1, h2, h3]
theorem put_pad {w : List Nat} (h2 : 2 ≤ w.length) (hc : clean (sgn w) = true) : put ⟨w, false, false⟩ 61 = some (next (w ++ [61])) := by
  unfold put
  have : ¬ w.length < 2 := by omega
  simp [hc, this]
theorem out4 {x1 x2 x3 x4 : Nat} (h1 : x1 < 64) (h2 : x2 < 64) (h3 : x3 < 64) (h4 : x4 < 64) : out [sign x1, sign x2, sign x3, sign x4] = oct (x1 * 262144 + x2 * 4096 + x3 * 64 + x4) := by
  simp only [out, num, List.foldl_cons, List.foldl_nil, val_sign h1, val_sign h2, val_sign h3, val_sign h4, List.length_cons, List.length_nil]
  simp [oct]
  all_goals omega
theorem out3 {x1 x2 x3 : Nat} (h1 : x1 < 64) (h2 : x2 < 64) (h3 : x3 < 64) : out [sign x1, sign x2, sign x3] = (oct (x1 * 262144 + x2 * 4096 + x3 * 64)).take 2 := by
  simp only [out, num, List.foldl_cons, List.foldl_nil, val_sign h1, val_sign h2, val_sign h3, List.length_cons, List.length_nil]
  simp [oct]
  all_goals omega
theorem out2 {x1 x2 : Nat} (h1 : x1 < 64) (h2 : x2 < 64) : out [sign x1, sign x2] = (oct (x1 * 262144 + x2 * 4096)).take 1 := by
  simp only [out, num, List.foldl_cons, List.foldl_nil, val_sign h1, val_sign h2, List.length_cons, List.length_nil]
  simp [oct]
  all_goals omega

theorem bytes3 {a b c : Nat} (ha : a < 256) (hb : b < 256) (hc : c < 256) : oct (a * 65536 + b * 256 + c) = [a, b, c] := by
  simp only [oct, List.cons.injEq]
  refine ⟨?_, ?_, ?_, trivial⟩ <;> omega
theorem word_lt {x : List Nat} (h : ∀ c ∈ x, c < 256) : word x < 16777216 := by
  unfold word
  have e : ∀ k, x.getD k 0 < 256 := fun k => by
    rw [List.getD_eq_getElem?_getD]
    cases hk : x[k]? with
    | none => simp
    | some v => simpa using h v (List.mem_of_getElem? hk)
  have := e 0; have := e 1; have := e 2
  omega
theorem digits {v : Nat} (h : v < 16777216) : v / 262144 % 64 * 262144 + v / 4096 % 64 * 4096 + v / 64 % 64 * 64 + v % 64 = v := by
  have h1 : v % 64 + 64 * (v / 64) = v := Nat.mod_add_div v 64
  have h2 : v / 64 % 64 + 64 * (v / 4096) = v / 64 := by have := Nat.mod_add_div (v / 64) 64; rw [Nat.div_div_eq_div_mul] at this; exact this
  have h3 : v / 4096 % 64 + 64 * (v / 262144) = v / 4096 := by have := Nat.mod_add_div (v / 4096) 64; rw [Nat.div_div_eq_div_mul] at this; exact this
  have h4 : v / 262144 % 64 = v / 262144 := Nat.mod_eq_of_lt (Nat.div_lt_of_lt_mul h)
  rw [h4]
  generalize v / 262144 = C at *
  generalize v / 4096 % 64 = c at *
  generalize v / 4096 = B at *
  generalize v / 64 % 64 = b at *
  generalize v / 64 = A at *
  generalize v % 64 = a at *
  omega
theorem run_group3 {a b c : Nat} (ha : a < 256) (hb : b < 256) (hc : c < 256) : run fresh (group [a, b, c]) = some (fresh, [a, b, c]) := by
  have hv : word [a, b, c] = a * 65536 + b * 256 + c := by simp [word]
  obtain ⟨v, hw⟩ : ∃ v, a * 65536 + b * 256 + c = v := ⟨_, rfl⟩
  have hlt : v < 16777216 := by omega
  have hg : group [a, b, c] = [sign (v / 262144 % 64), sign (v / 4096 % 64), sign (v / 64 % 64), sign (v % 64)] := by
    have h0 : group [a, b, c] = four (word [a, b, c]) := by
      unfold group
      generalize word [a, b, c] = u
      rfl
    rw [h0, hv, hw]
    rfl
  have q1 : v / 262144 % 64 < 64 := by omega
  have q2 : v / 4096 % 64 < 64 := by omega
  have q3 : v / 64 % 64 < 64 := by omega
  have q4 : v % 64 < 64 := by omega
  have e : v / 262144 % 64 * 262144 + v / 4096 % 64 * 4096 + v / 64 % 64 * 64 + v % 64 = v := by
    exact digits hlt
  rw [hg, run_full (by rw [val_sign q1]; exact q1) (by rw [val_sign q2]; exact q2) (by rw [val_sign q3]; exact q3) (by rw [val_sign q4]; exact q4), out4 q1 q2 q3 q4, e, ← hw, bytes3 ha hb hc]
/-- What a text that stands for b leaves: its bytes come with it, or in the end. -/
def Gives (t : List Nat) (b : List Nat) : Prop := ∃ s x y, run fresh t = some (s, x) ∧ fin s = (fresh, y, 0) ∧ x ++ y = b ∧ s.bad = false
theorem Gives.cons {t b : List Nat} (h : Gives t b) {x y z : Nat} (hx : x < 256) (hy : y < 256) (hz : z < 256) : Gives (group [x, y, z] ++ t) (x :: y :: z :: b) := by
  obtain ⟨s, p, q, h1, h2, h3, h4⟩ := h
  refine ⟨s, [x, y, z] ++ p, q, ?_, h2, by rw [← h3]; simp, h4⟩
  rw [run_append, run_group3 hx hy hz]
  simp only [h1]
theorem gives_nil : Gives [] [] := ⟨fresh, [], [], rfl, by simp [fin, sgn_nil, clean, num, out, oct, fresh], rfl, rfl⟩
theorem clean2 {x1 x2 : Nat} (h1 : x1 < 64) (h2 : x2 < 64) (h : x2 % 16 = 0) : clean [sign x1, sign x2] = true := by
  simp [clean, num, val_sign h1, val_sign h2]
  omega
theorem clean3 {x1 x2 x3 : Nat} (h1 : x1 < 64) (h2 : x2 < 64) (h3 : x3 < 64) (h : x3 % 4 = 0) : clean [sign x1, sign x2, sign x3] = true := by
  simp [clean, num, val_sign h1, val_sign h2, val_sign h3]
  omega
theorem gives_one (pad : Bool) {a : Nat} (ha : a < 256) : Gives (if pad then group [a] else bareOf [a]) [a] := by
  have hv : word [a] = a * 65536 := by simp [word]
  have hb : bareOf [a] = [sign (a * 65536 / 262144 % 64), sign (a * 65536 / 4096 % 64)] := by simp [bareOf, hv, four]
  have hg : group [a] = [sign (a * 65536 / 262144 % 64), sign (a * 65536 / 4096 % 64)] ++ [61, 61] := by simp [group, hv, four]
  have q1 : a * 65536 / 262144 % 64 < 64 := by omega
  have q2 : a * 65536 / 4096 % 64 < 64 := by omega
  have q3 : a * 65536 / 4096 % 64 % 16 = 0 := by omega
  have hr := run_two (a := sign (a * 65536 / 262144 % 64)) (b := sign (a * 65536 / 4096 % 64)) (by rw [val_sign q1]; exact q1) (by rw [val_sign q2]; exact q2)
  have ho : out [sign (a * 65536 / 262144 % 64), sign (a * 65536 / 4096 % 64)] = [a] := by
    rw [out2 q1 q2]
    have e : a * 65536 / 262144 % 64 * 262144 + a * 65536 / 4096 % 64 * 4096 = a * 65536 + 0 * 256 + 0 := by omega
    rw [e, bytes3 ha (by omega) (by omega)]
    rfl
  have hs : sgn [sign (a * 65536 / 262144 % 64), sign (a * 65536 / 4096 % 64)] = [sign (a * 65536 / 262144 % 64), sign (a * 65536 / 4096 % 64)] := sgn_all (by simp [sign_ne _ q1, sign_ne _ q2])
  have hc := clean2 q1 q2 q3
  generalize sign (a * 65536 / 262144 % 64) = s1, sign (a * 65536 / 4096 % 64) = s2 at *
  cases pad
  · simp only [Bool.false_eq_true, if_false, hb]
    refine ⟨_, [], _, hr, ?_, by rw [List.nil_append], rfl⟩
    simp [fin, hs, hc, ho]
  · simp only [if_true, hg]
    refine ⟨⟨[], true, false⟩, [a], [], ?_, by simp [fin, sgn_nil, clean, num, out, oct], rfl, rfl⟩
    have n1 : s1 ≠ 61 := by intro e; rw [e] at hs; simp [sgn] at hs
    have n2 : s2 ≠ 61 := by intro e; rw [e] at hs; simp [sgn, n1] at hs
    have p1 := put_pad (w := [s1, s2]) (by simp) (by rw [hs]; exact hc)
    have hs3 : sgn [s1, s2, 61] = [s1, s2] := by rw [sgn_cons n1, sgn_cons n2, sgn_fill]
    have p2 := put_pad (w := [s1, s2, 61]) (by simp) (by rw [hs3]; exact hc)
    have hs4 : sgn [s1, s2, 61, 61] = [s1, s2] := by rw [sgn_cons n1, sgn_cons n2, sgn_fill]
    simp [next, hs4, ho] at p1 p2
    rw [run_append, hr]
    simp [run, p1, p2]
theorem gives_two (pad : Bool) {a b : Nat} (ha : a < 256) (hb : b < 256) : Gives (if pad then group [a, b] else bareOf [a, b]) [a, b] := by
  have hv : word [a, b] = a * 65536 + b * 256 := by simp [word]
  have hb' : bareOf [a, b] = [sign ((a * 65536 + b * 256) / 262144 % 64), sign ((a * 65536 + b * 256) / 4096 % 64), sign ((a * 65536 + b * 256) / 64 % 64)] := by simp [bareOf, hv, four]
  have hg : group [a, b] = [sign ((a * 65536 + b * 256) / 262144 % 64), sign ((a * 65536 + b * 256) / 4096 % 64), sign ((a * 65536 + b * 256) / 64 % 64)] ++ [61] := by simp [group, hv, four]
  have q1 : (a * 65536 + b * 256) / 262144 % 64 < 64 := by omega
  have q2 : (a * 65536 + b * 256) / 4096 % 64 < 64 := by omega
  have q3 : (a * 65536 + b * 256) / 64 % 64 < 64 := by omega
  have q4 : (a * 65536 + b * 256) / 64 % 64 % 4 = 0 := by omega
  have hr := run_three (a := sign ((a * 65536 + b * 256) / 262144 % 64)) (b := sign ((a * 65536 + b * 256) / 4096 % 64)) (c := sign ((a * 65536 + b * 256) / 64 % 64)) (by rw [val_sign q1]; exact q1) (by rw [val_sign q2]; exact q2) (by rw [val_sign q3]; exact q3)
  have ho : out [sign ((a * 65536 + b * 256) / 262144 % 64), sign ((a * 65536 + b * 256) / 4096 % 64), sign ((a * 65536 + b * 256) / 64 % 64)] = [a, b] := by
    rw [out3 q1 q2 q3]
    have e : (a * 65536 + b * 256) / 262144 % 64 * 262144 + (a * 65536 + b * 256) / 4096 % 64 * 4096 + (a * 65536 + b * 256) / 64 % 64 * 64 = a * 65536 + b * 256 + 0 := by omega
    rw [e, bytes3 ha hb (by omega)]
    rfl
  have hs : sgn [sign ((a * 65536 + b * 256) / 262144 % 64), sign ((a * 65536 + b * 256) / 4096 % 64), sign ((a * 65536 + b * 256) / 64 % 64)] = [sign ((a * 65536 + b * 256) / 262144 % 64), sign ((a * 65536 + b * 256) / 4096 % 64), sign ((a * 65536 + b * 256) / 64 % 64)] := sgn_all (by simp [sign_ne _ q1, sign_ne _ q2, sign_ne _ q3])
  have hc := clean3 q1 q2 q3 q4
  generalize sign ((a * 65536 + b * 256) / 262144 % 64) = s1, sign ((a * 65536 + b * 256) / 4096 % 64) = s2, sign ((a * 65536 + b * 256) / 64 % 64) = s3 at *
  cases pad
  · simp only [Bool.false_eq_true, if_false, hb']
    refine ⟨_, [], _, hr, ?_, by rw [List.nil_append], rfl⟩
    simp [fin, hs, hc, ho]
  · simp only [if_true, hg]
    refine ⟨⟨[], true, false⟩, [a, b], [], ?_, by simp [fin, sgn_nil, clean, num, out, oct], rfl, rfl⟩
    have n1 : s1 ≠ 61 := by intro e; rw [e] at hs; simp [sgn] at hs
    have n2 : s2 ≠ 61 := by intro e; rw [e] at hs; simp [sgn, n1] at hs
    have n3 : s3 ≠ 61 := by intro e; rw [e] at hs; simp [sgn, n1, n2] at hs
    have p1 := put_pad (w := [s1, s2, s3]) (by simp) (by rw [hs]; exact hc)
    have hs4 : sgn [s1, s2, s3, 61] = [s1, s2, s3] := by rw [sgn_cons n1, sgn_cons n2, sgn_cons n3, sgn_fill]
    simp [next, hs4, ho] at p1
    rw [run_append, hr]
    simp [run, p1]
theorem gives_enc (pad : Bool) : ∀ b : List Nat, (∀ c ∈ b, c < 256) → Gives (if pad then enc b else bareOf b) b
  | [], _ => by cases pad <;> exact gives_nil
  | [a], h => gives_one pad (h a (by simp))
  | [a, b], h => gives_two pad (h a (by simp)) (h b (by simp))
  | a :: b :: c :: r, h => by
    have ih := (gives_enc pad r (fun x hx => h x (by simp [hx]))).cons (h a (by simp)) (h b (by simp)) (h c (by simp))
    cases pad
    · exact ih
    · exact ih
end Go.Proofs.Ytgmbjebighhgkaa
