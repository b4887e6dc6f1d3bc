/- Signs in plain Lean: numbers, commands, one behind the other. -/
import Derived.Test.YtomcjdonacckfaaEndP
namespace Go.Proofs.Ytomcjdonacckfaa
set_option linter.unusedVariables false
set_option linter.unusedSimpArgs false
theorem feed_append (d : Dec) (x y : List Nat) : d.feed (x ++ y) = (d.feed x).feed y := by simp [Dec.feed]
theorem feed_cons (d : Dec) (c : Nat) (x : List Nat) : d.feed (c :: x) = (d.byte c).feed x := rfl
theorem feed_nil (d : Dec) : d.feed [] = d := rfl
/-- The digits of a number. -/
def digs (n : Nat) : List Nat := if h : n < 10 then [48 + n] else digs (n / 10) ++ [48 + n % 10]
  termination_by n
  decreasing_by omega
theorem digs_lt {n : Nat} (h : n < 10) : digs n = [48 + n] := by rw [digs, dif_pos h]
theorem digs_ge {n : Nat} (h : 10 ≤ n) : digs n = digs (n / 10) ++ [48 + n % 10] := by rw [digs, dif_neg (by omega)]
theorem digs_byte (n : Nat) : ∀ c ∈ digs n, 48 ≤ c ∧ c < 58 := by
  induction n using Nat.strongRecOn with
  | _ n ih =>
    intro c hc
    by_cases h : n < 10
    · rw [digs_lt h] at hc
      have : c = 48 + n := by simpa using hc
      omega
    · rw [digs_ge (by omega)] at hc
      rcases List.mem_append.1 hc with h1 | h1
      · exact ih (n / 10) (by omega) c h1
      · have : c = 48 + n % 10 := by simpa using h1
        omega
/-- A decoder that takes a command's numbers. -/
def Dec.at (d : Dec) (c : Nat) (ns : List Int) (v : Int) : Dec := { d with rep := 0, cmd := (c : Int), n := ns, v := v }
theorem byte_of {d : Dec} {c : Nat} (h : 33 ≤ c ∧ c ≤ 126) (hf : d.full = false) (ho : d.over = false) : d.byte c = d.sig c := by
  unfold Dec.byte; rw [if_pos ⟨h.1, h.2, hf, ho⟩]
theorem sig_plain {d : Dec} {c : Nat} (h : d.cmd = 0) : d.sig c = d.plainSign c := by unfold Dec.sig; rw [if_pos h]
theorem feed_digs (d : Dec) (c : Nat) (hc : c ≠ 0) (ns : List Int) (hf : d.full = false) (ho : d.over = false) (n : Nat) : (d.at c ns 0).feed (digs n) = d.at c ns ((min n 65535 : Nat) : Int) := by
  have hcc : ¬ (c : Int) = 0 := by omega
  induction n using Nat.strongRecOn with
  | _ n ih =>
    by_cases h : n < 10
    · rw [digs_lt h, feed_cons, feed_nil, byte_of (d := d.at c ns 0) (by omega) hf ho]
      unfold Dec.sig
      rw [if_neg (show ¬ (d.at c ns 0).cmd = 0 from hcc), if_pos (by omega)]
      show d.at c ns _ = d.at c ns _
      congr 1
      show min (10 * (0 : Int) + (((48 + n : Nat) : Int) - 48)) 65535 = _
      omega
    · rw [digs_ge (by omega), feed_append, ih (n / 10) (by omega), feed_cons, feed_nil, byte_of (d := d.at c ns ((min (n / 10) 65535 : Nat) : Int)) (by omega) hf ho]
      unfold Dec.sig
      rw [if_neg (show ¬ (d.at c ns ((min (n / 10) 65535 : Nat) : Int)).cmd = 0 from hcc), if_pos (by omega)]
      show d.at c ns _ = d.at c ns _
      congr 1
      show min (10 * ((min (n / 10) 65535 : Nat) : Int) + (((48 + n % 10 : Nat) : Int) - 48)) 65535 = _
      omega
theorem feed_semi (d : Dec) (c : Nat) (hc : c ≠ 0) (ns : List Int) (v : Int) (hl : ns.length < 5) (hf : d.full = false) (ho : d.over = false) (x : List Nat) : (d.at c ns v).feed (59 :: x) = (d.at c (ns ++ [v]) 0).feed x := by
  have hcc : ¬ (c : Int) = 0 := by omega
  rw [feed_cons, byte_of (d := d.at c ns v) (by omega) hf ho]
  unfold Dec.sig
  rw [if_neg (show ¬ (d.at c ns v).cmd = 0 from hcc), if_neg (by omega), if_pos rfl]
  show Dec.feed { d.at c ns v with n := if ns.length < 5 then ns ++ [v] else ns, v := 0 } x = _
  rw [if_pos hl]
  rfl
/-- A command's sign. -/
theorem feed_cmd (d : Dec) (c : Nat) (hc : c = 33 ∨ c = 35 ∨ c = 34) (h0 : d.cmd = 0) (hf : d.full = false) (ho : d.over = false) (x : List Nat) : d.feed (c :: x) = (d.at c [] 0).feed x := by
  rw [feed_cons, byte_of (by omega) hf ho, sig_plain h0]
  unfold Dec.plainSign
  rw [if_neg (by omega), if_pos hc]
  rfl
theorem feed_num (d : Dec) (c : Nat) (hc : c ≠ 0) (ns : List Int) (hf : d.full = false) (ho : d.over = false) (n : Nat) (hn : n ≤ 65535) (x : List Nat) : (d.at c ns 0).feed (digs n ++ x) = (d.at c ns (n : Int)).feed x := by
  rw [feed_append, feed_digs d c hc ns hf ho n, Nat.min_eq_left hn]
/-- A number and a semicolon. -/
theorem feed_part (d : Dec) (c : Nat) (hc : c ≠ 0) (ns ns' : List Int) (hl : ns.length < 5) (hf : d.full = false) (ho : d.over = false) (n : Nat) (hn : n ≤ 65535) (he : ns ++ [(n : Int)] = ns') (x : List Nat) : (d.at c ns 0).feed (digs n ++ 59 :: x) = (d.at c ns' 0).feed x := by
  rw [feed_num d c hc ns hf ho n hn, feed_semi d c hc ns _ hl hf ho, he]
theorem at_cmd (d : Dec) (c : Nat) (ns : List Int) (v : Int) : (d.at c ns v).cmd = (c : Int) := rfl
/-- A sign that ends a command's numbers. -/
theorem feed_ends (d : Dec) (hc : d.cmd ≠ 0) (hf : d.full = false) (ho : d.over = false) (b : Nat) (hb : 33 ≤ b ∧ b ≤ 126) (h1 : ¬ (48 ≤ b ∧ b ≤ 57)) (h2 : b ≠ 59) (x : List Nat) {D : Dec} (hD : d.done d.w.toNat d.h.toNat = D) (hDf : D.full = false) : d.feed (b :: x) = (D.plainSign b).feed x := by
  rw [feed_cons, byte_of hb hf ho]
  unfold Dec.sig
  rw [if_neg hc, if_neg h1, if_neg h2, hD, if_neg (by rw [hDf]; decide)]
theorem done_color_eq (d : Dec) (ns : List Int) (v : Int) (hl : ns.length < 5) (a b : Nat) : (d.at 35 ns v).done a b = ({ d with rep := 0, cmd := 0, n := ns ++ [v], v := 0 } : Dec).color := by
  unfold Dec.done
  rw [if_neg (show ¬ (d.at 35 ns v).cmd = 0 by show ¬ ((35 : Nat) : Int) = 0; decide), if_neg (show ¬ (d.at 35 ns v).cmd = 33 by show ¬ ((35 : Nat) : Int) = 33; decide), if_pos (show (d.at 35 ns v).cmd = 35 from rfl)]
  congr 1
  unfold Dec.cmdOff Dec.push Dec.at
  simp only
  rw [if_pos hl]
end Go.Proofs.Ytomcjdonacckfaa
