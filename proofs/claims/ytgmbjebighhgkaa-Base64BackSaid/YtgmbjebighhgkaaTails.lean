/- Behind a place of a slice; strings joined; the errors of a text in two pieces. -/
import Derived.Test.YtgmbjebighhgkaaRDec
import Derived.Test.YtgmbjebighhgkaaCuts
import Derived.Test.YtgmbjebighhgkaaKnown
namespace Go.Proofs.Ytgmbjebighhgkaa
open Go.RowKit
theorem SlAt.sub {k : IntKind} {w : World} {b off len at_ n : Nat} {xs : List Int} (h : SlAt k w (some ⟨b, off, none⟩) len xs) (hn : at_ + n ≤ len) :
    SlAt k w (some ⟨b, off + at_, none⟩) n ((xs.drop at_).take n) := by
  obtain ⟨h1, h2⟩ := h
  refine ⟨by simp; omega, ?_⟩
  by_cases h0 : n = 0
  · exact .inl h0
  · obtain ⟨b', off', he, hc⟩ := h2.resolve_left (by omega)
    cases he
    refine .inr ⟨b, off + at_, rfl, fun j hj => ?_⟩
    rw [show off + at_ + j = off + (at_ + j) by omega, hc _ (by omega)]
    simp [hj]
theorem SlAt.drop {k : IntKind} {w : World} {b off len at_ : Nat} {xs : List Int} (h : SlAt k w (some ⟨b, off, none⟩) len xs) (hn : at_ ≤ len) :
    SlAt k w (some ⟨b, off + at_, none⟩) (len - at_) (xs.drop at_) := by
  have := h.sub (at_ := at_) (n := len - at_) (by omega)
  rwa [List.take_of_length_le (by have := h.1; simp; omega)] at this
theorem ints_take (x : List Nat) (n : Nat) : (ints x).take n = ints (x.take n) := by simp [ints, List.map_take]
theorem ints_drop (x : List Nat) (n : Nat) : (ints x).drop n = ints (x.drop n) := by simp [ints, List.map_drop]
theorem str_app (xs ys : List Int) : strOfNums xs ++ strOfNums ys = strOfNums (xs ++ ys) := by
  unfold strOfNums
  apply ByteArray.ext
  simp
theorem str_size (xs : List Int) : (strOfNums xs).size = xs.length := by
  unfold strOfNums
  simp [ByteArray.size]
theorem DAt.lt {w : World} {a : Nat} {s : St} (h : DAt w a s) : a < w.heap.size := lt_of_blk h.1
theorem write_abc : write fresh [81, 85, 74, 68] = (fresh, [65, 66, 67], 0) := by rfl
/-- The three errors of a text in two pieces. -/
theorem three_errs (x y : List Nat) : ((write fresh x).2.2 = 0 ∧ (write (write fresh x).1 y).2.2 = 0 ∧ (write fresh (x ++ y)).2.2 = 0 ∧ (write fresh x).2.1 ++ (write (write fresh x).1 y).2.1 = (write fresh (x ++ y)).2.1) ∨
    (((write fresh x).2.2 = 0 ∨ (write fresh x).2.2 = 3) ∧ (write (write fresh x).1 y).2.2 = 3 ∧ (write fresh (x ++ y)).2.2 = 3 ∧ (write (write fresh x).1 y).1 = broken) := by
  obtain ⟨h1, h2, h3, h4⟩ := two_cut x y
  have e : ∀ s l, (write s l).2.2 = 0 ∨ (write s l).2.2 = 3 := fun s l => by
    rcases write_err s l with h | h
    · exact .inl h
    · exact .inr (by rw [h])
  have a := e fresh x
  have b := e (write fresh x).1 y
  have c := e fresh (x ++ y)
  rcases c with c | c
  · left
    have : ¬ ((write fresh x).2.2 ≠ 0 ∨ (write (write fresh x).1 y).2.2 ≠ 0) := fun h => h1.1 h c
    refine ⟨?_, ?_, c, h3 c⟩
    · rcases a with a | a
      · exact a
      · exact absurd (.inl (by rw [a]; simp)) this
    · rcases b with b | b
      · exact b
      · exact absurd (.inr (by rw [b]; simp)) this
  · right
    have hne : (write fresh (x ++ y)).2.2 ≠ 0 := by rw [c]; simp
    refine ⟨a, ?_, c, h4 hne⟩
    rcases b with b | b
    · rcases h1.2 hne with h | h
      · exact absurd b (h2 h)
      · exact absurd b h
    · exact b
end Go.Proofs.Ytgmbjebighhgkaa
