import Derived.Test.YtndneidjnlammaaRpeek
namespace Go.Proofs.Ytndneidjnlammaa
open Go.RowKit Pl
set_option linter.unusedVariables false
set_option maxRecDepth 100000 in
set_option maxHeartbeats 1000000 in
theorem refPeek_no (q : Nat) (a : Option Addr) (len cap at_ : Nat) (n : Int) (xs : List Int) (w : World) (h : RfAt w q a len cap xs at_) (hn : n < 0 ∨ 32 < n ∨ 8 * (len : Int) - at_ < n) :
    Calls Try.prog 35 #[.pointer (some ⟨q, 0, none⟩), .int .i64 n] w fun e w' => e = .returned (.tuple #[.int .u32 0, .bool false]) ∧ ∃ n, w' = w.drewN n := by
  have H := Lib.hid h
  clear h
  by_cases h1 : n < 0
  · clear hn
    go_enter Try.func35, Try.ntmps35
    go_wp2
    go_ret2
    exact ⟨rfl, 0, rfl⟩
  by_cases h2 : 32 < n
  · clear hn
    go_enter Try.func35, Try.ntmps35
    go_wp2
    go_ret2
    exact ⟨rfl, 0, rfl⟩
  have ht : decide ((8 * (len : Int) - at_) < n) = true := by simp; omega
  have ht1 : decide (n < 0) = false := by simp; omega
  have ht2 : decide (32 < n) = false := by simp; omega
  clear hn h1 h2
  go_enter Try.func35, Try.ntmps35
  go_wp2_with (go_at_call 36; refine (refLeft_any q a len cap at_ xs _ H.out).mono ?_; rintro e w' ⟨rfl, m0, rfl⟩)
  go_ret2
  exact ⟨rfl, _, rfl⟩
set_option maxRecDepth 100000 in
set_option maxHeartbeats 1000000 in
theorem refBits_no (q : Nat) (a : Option Addr) (len cap at_ : Nat) (n : Int) (xs : List Int) (w : World) (h : RfAt w q a len cap xs at_) (hn : n < 0 ∨ 32 < n ∨ 8 * (len : Int) - at_ < n) :
    Calls Try.prog 33 #[.pointer (some ⟨q, 0, none⟩), .int .i64 n] w fun e w' => e = .returned (.tuple #[.int .u32 0, .bool false]) ∧ ∃ n, w' = w.drewN n := by
  have H := Lib.hid h
  have HN := Lib.hid hn
  clear h hn
  go_enter Try.func33, Try.ntmps33
  go_wp2_with (go_at_call 35; refine (refPeek_no q a len cap at_ n xs _ H.out HN.out).mono ?_; rintro e w' ⟨rfl, m, rfl⟩)
  go_ret2
  exact ⟨rfl, _, rfl⟩
set_option maxRecDepth 100000 in
set_option maxHeartbeats 1000000 in
theorem refBits_yes (q : Nat) (a : Option Addr) (len cap at_ n : Nat) (xs : List Int) (w : World) (h : RfAt w q a len cap xs at_) (hn : n ≤ 32) (hl : at_ + n ≤ 8 * len) :
    Calls Try.prog 33 #[.pointer (some ⟨q, 0, none⟩), .int .i64 n] w fun e w' => e = .returned (.tuple #[.int .u32 (bitsOf (nats xs) at_ n : Int), .bool true]) ∧ RfAt w' q a len cap xs (at_ + n) ∧ Kept (· = q) w w' := by
  have hl4 : len ≤ 400 := h.2.2.2.2.2.2.1
  obtain ⟨⟨c0, f0⟩, c1, f1⟩ := blk2 h.1
  have H := Lib.hid h
  clear h
  go_enter Try.func33, Try.ntmps33
  go_wp2_with (go_at_call 35; refine (refPeek_yes q a len cap at_ n xs _ H.out hn hl).mono ?_; rintro e w' ⟨rfl, m, rfl⟩)
  go_ret2
  have hk : Kept (· = q) w (w.drewN m) := (Kept.refl _ w).drewN m
  refine ⟨rfl, (H.out.kept ((Kept.refl (fun _ => False) w).drewN m) id (fun _ _ _ _ => id)).put (by omega) hl, hk.setCell (p := ⟨q, 1, none⟩) (.inl rfl) _⟩
set_option maxRecDepth 100000 in
set_option maxHeartbeats 1000000 in
theorem rat_any (p : Nat) (o : Option Nat) (bs : List Int) (at_ : Nat) (w : World) (h : RdAt w p o bs at_) :
    Calls Try.prog 17 #[.pointer (some ⟨p, 0, none⟩)] w fun e w' => e = .returned (.int .i64 (at_ : Int)) ∧ w = w' := by
  obtain ⟨v, h1, -⟩ := h
  obtain ⟨⟨c0, -⟩, c1, -⟩ := blk2 h1
  go_enter Try.func17, Try.ntmps17
  go_wp2
  go_ret
  exact ⟨rfl, rfl⟩
end Go.Proofs.Ytndneidjnlammaa
