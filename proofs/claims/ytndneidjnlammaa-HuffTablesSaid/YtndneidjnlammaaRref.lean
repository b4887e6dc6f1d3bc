import Derived.Test.YtndneidjnlammaaRbits
namespace Go.Proofs.Ytndneidjnlammaa
open Go.RowKit Pl
set_option linter.unusedVariables false
/-- The reference's reader at block q: the argument's bytes, and how many bits were passed. -/
def RfAt (w : World) (q : Nat) (a : Option Addr) (len cap : Nat) (xs : List Int) (at_ : Nat) : Prop :=
  w.heap[q]? = some (.cells #[.slice a len cap, .int .i64 (at_ : Int)] 41 (0, 0)) ∧ SlAt .u8 w a len xs ∧ (a = none → len = 0 ∧ cap = 0) ∧ (∀ b off, 0 < len → a = some ⟨b, off, none⟩ → b ≠ q) ∧ Bytes xs ∧ at_ ≤ 8 * len ∧ len ≤ 400 ∧ len ≤ cap ∧ cap ≤ 9223372036854775807
theorem RfAt.kept {S : Nat → Prop} {w w' : World} {q : Nat} {a : Option Addr} {len cap at_ : Nat} {xs : List Int} (h : RfAt w q a len cap xs at_) (hk : Kept S w w') (hq : ¬ S q) (ha : ∀ b off, 0 < len → a = some ⟨b, off, none⟩ → ¬ S b) : RfAt w' q a len cap xs at_ := by
  obtain ⟨h1, h2, h3⟩ := h
  exact ⟨hk.blk h1 hq, h2.kept hk ha, h3⟩
theorem RfAt.put {w : World} {q : Nat} {a : Option Addr} {len cap at_ t : Nat} {xs : List Int} {z : Int} (h : RfAt w q a len cap xs at_) (hz : z = t) (ht : t ≤ 8 * len) : RfAt (w.setCell ⟨q, 1, none⟩ (.int .i64 z)) q a len cap xs t := by
  subst hz
  obtain ⟨h1, h2, h3, h4, h5, h6, h7⟩ := h
  refine ⟨?_, h2.kept (S := (· = q)) ((Kept.refl (· = q) w).setCell (p := ⟨q, 1, none⟩) (.inl rfl) _) h4, h3, h4, h5, ht, h7⟩
  have := blk_set (w := w) h1 1 (.int .i64 (t : Int))
  simpa using this
set_option maxRecDepth 100000 in
set_option maxHeartbeats 1000000 in
theorem refLeft_any (q : Nat) (a : Option Addr) (len cap at_ : Nat) (xs : List Int) (w : World) (h : RfAt w q a len cap xs at_) :
    Calls Try.prog 36 #[.pointer (some ⟨q, 0, none⟩)] w fun e w' => e = .returned (.int .i64 (8 * (len : Int) - at_)) ∧ ∃ n, w' = w.drewN n := by
  obtain ⟨h1, h2, h3, h4, h5, h6, h7, h8, h9⟩ := h
  obtain ⟨⟨c0, -⟩, c1, -⟩ := blk2 h1
  clear h1 h2 h3 h4 h5
  go_enter Try.func36, Try.ntmps36
  go_wp2
  go_quiet (fail)
  go_wp2
  go_ret
  exact ⟨ret_int (by omega), _, rfl⟩
end Go.Proofs.Ytndneidjnlammaa
