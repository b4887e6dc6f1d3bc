/- Every answer of a reader, failing or not, as one function of the bytes, the place and the number. -/
import Derived.Test.YtocahkmfopbdlaaRnone
import Derived.Test.YtocahkmfopbdlaaRrefBytes
namespace Go.Proofs.Ytocahkmfopbdlaa
open Go.RowKit Pl
set_option linter.unusedVariables false
def okB (len t : Nat) (n : Int) : Bool := decide (0 ≤ n ∧ n ≤ 32 ∧ (t : Int) + n ≤ 8 * len)
def resB (ds : List Int) (t : Nat) (n : Int) : Nat := if okB ds.length t n then bitsOf (nats ds) t n.toNat else 0
def nextB (len t : Nat) (n : Int) : Nat := if okB len t n then t + n.toNat else t
def okY (len t : Nat) (n : Int) : Bool := decide (t % 8 = 0 ∧ 0 ≤ n ∧ n ≤ ((8 * len - t) / 8 : Nat))
def resY (ds : List Int) (t : Nat) (n : Int) : List Int := if okY ds.length t n then (ds.drop (t / 8)).take n.toNat else []
def nextY (len t : Nat) (n : Int) : Nat := if okY len t n then t + 8 * n.toNat else t
def nextA (t : Nat) : Nat := t + (8 - t % 8) % 8
theorem nextB_le {len t : Nat} {n : Int} (h : t ≤ 8 * len) : nextB len t n ≤ 8 * len := by
  unfold nextB
  split
  · rename_i h'; have := of_decide_eq_true h'; omega
  · exact h
theorem drewAt {p : Nat} {o : Option Nat} {bs : List Int} {at_ : Nat} {w w' : World} (h : RdAt w p o bs at_) (hm : ∃ n, w' = w.drewN n) : RdAt w' p o bs at_ ∧ Kept (· = p) w w' := by
  obtain ⟨m, rfl⟩ := hm
  exact ⟨h.kept ((Kept.refl (fun _ => False) w).drewN m) id (fun _ _ => id), (Kept.refl _ w).drewN m⟩
theorem drewRf {q : Nat} {a : Option Addr} {len cap at_ : Nat} {xs : List Int} {w w' : World} (h : RfAt w q a len cap xs at_) (hm : ∃ n, w' = w.drewN n) : RfAt w' q a len cap xs at_ ∧ Kept (· = q) w w' := by
  obtain ⟨m, rfl⟩ := hm
  exact ⟨h.kept ((Kept.refl (fun _ => False) w).drewN m) id (fun _ _ _ _ => id), (Kept.refl _ w).drewN m⟩
theorem peek_any (p : Nat) (o : Option Nat) (bs : List Int) (t : Nat) (n : Int) (w : World) (h : RdAt w p o bs t) :
    Calls Try.prog 30 #[.pointer (some ⟨p, 0, none⟩), .int .i64 n] w fun e w' => e = .returned (.tuple #[.int .u32 (resB bs t n : Int), .bool (okB bs.length t n)]) ∧ RdAt w' p o bs t ∧ Kept (· = p) w w' := by
  have hl : t ≤ 8 * bs.length := by obtain ⟨v, h1, h2, h3, h4, h5, h6, h7⟩ := h; exact h6
  by_cases hc : okB bs.length t n = true
  · have hc' := of_decide_eq_true hc
    obtain ⟨k, rfl⟩ : ∃ k : Nat, n = k := ⟨n.toNat, by omega⟩
    simp only [resB, hc, if_true, Int.toNat_natCast]
    exact (peek_yes p o bs t k w h (by omega) (by omega)).mono fun e w' ⟨he, hm⟩ => ⟨he, drewAt h hm⟩
  · have hc' : ¬ _ := fun hh => hc (decide_eq_true hh)
    have hf := Bool.eq_false_iff.2 hc
    simp only [resB, hf, Bool.false_eq_true, if_false]
    exact (peek_no p o bs t n w h (by omega)).mono fun e w' ⟨he, hm⟩ => ⟨he, drewAt h hm⟩
theorem rbits_any (p : Nat) (o : Option Nat) (bs : List Int) (t : Nat) (n : Int) (w : World) (h : RdAt w p o bs t) :
    Calls Try.prog 15 #[.pointer (some ⟨p, 0, none⟩), .int .i64 n] w fun e w' => e = .returned (.tuple #[.int .u32 (resB bs t n : Int), .bool (okB bs.length t n)]) ∧ RdAt w' p o bs (nextB bs.length t n) ∧ Kept (· = p) w w' := by
  have hl : t ≤ 8 * bs.length := by obtain ⟨v, h1, h2, h3, h4, h5, h6, h7⟩ := h; exact h6
  by_cases hc : okB bs.length t n = true
  · have hc' := of_decide_eq_true hc
    obtain ⟨k, rfl⟩ : ∃ k : Nat, n = k := ⟨n.toNat, by omega⟩
    simp only [resB, nextB, hc, if_true, Int.toNat_natCast]
    exact rbits_yes p o bs t k w h (by omega) (by omega)
  · have hc' : ¬ _ := fun hh => hc (decide_eq_true hh)
    have hf := Bool.eq_false_iff.2 hc
    simp only [resB, nextB, hf, Bool.false_eq_true, if_false]
    exact (rbits_no p o bs t n w h (by omega)).mono fun e w' ⟨he, hm⟩ => ⟨he, drewAt h hm⟩
theorem refPeek_any (q : Nat) (a : Option Addr) (len cap t : Nat) (n : Int) (xs : List Int) (w : World) (h : RfAt w q a len cap xs t) :
    Calls Try.prog 31 #[.pointer (some ⟨q, 0, none⟩), .int .i64 n] w fun e w' => e = .returned (.tuple #[.int .u32 (resB xs t n : Int), .bool (okB xs.length t n)]) ∧ RfAt w' q a len cap xs t ∧ Kept (· = q) w w' := by
  have hl : t ≤ 8 * len := h.2.2.2.2.2.1
  have hx : xs.length = len := h.2.1.1
  rw [hx]
  by_cases hc : okB len t n = true
  · have hc' := of_decide_eq_true hc
    obtain ⟨k, rfl⟩ : ∃ k : Nat, n = k := ⟨n.toNat, by omega⟩
    simp only [resB, hx, hc, if_true, Int.toNat_natCast]
    exact (refPeek_yes q a len cap t k xs w h (by omega) (by omega)).mono fun e w' ⟨he, hm⟩ => ⟨he, drewRf h hm⟩
  · have hc' : ¬ _ := fun hh => hc (decide_eq_true hh)
    have hf := Bool.eq_false_iff.2 hc
    simp only [resB, hx, hf, Bool.false_eq_true, if_false]
    exact (refPeek_no q a len cap t n xs w h (by omega)).mono fun e w' ⟨he, hm⟩ => ⟨he, drewRf h hm⟩
theorem refBits_any (q : Nat) (a : Option Addr) (len cap t : Nat) (n : Int) (xs : List Int) (w : World) (h : RfAt w q a len cap xs t) :
    Calls Try.prog 29 #[.pointer (some ⟨q, 0, none⟩), .int .i64 n] w fun e w' => e = .returned (.tuple #[.int .u32 (resB xs t n : Int), .bool (okB xs.length t n)]) ∧ RfAt w' q a len cap xs (nextB xs.length t n) ∧ Kept (· = q) w w' := by
  have hl : t ≤ 8 * len := h.2.2.2.2.2.1
  have hx : xs.length = len := h.2.1.1
  rw [hx]
  by_cases hc : okB len t n = true
  · have hc' := of_decide_eq_true hc
    obtain ⟨k, rfl⟩ : ∃ k : Nat, n = k := ⟨n.toNat, by omega⟩
    simp only [resB, nextB, hx, hc, if_true, Int.toNat_natCast]
    exact refBits_yes q a len cap t k xs w h (by omega) (by omega)
  · have hc' : ¬ _ := fun hh => hc (decide_eq_true hh)
    have hf := Bool.eq_false_iff.2 hc
    simp only [resB, nextB, hx, hf, Bool.false_eq_true, if_false]
    exact (refBits_no q a len cap t n xs w h (by omega)).mono fun e w' ⟨he, hm⟩ => ⟨he, drewRf h hm⟩
theorem own_nil_none (w : World) : Own .u8 5 w (.slice none 0 0) [] := Own.nil _ _ _
theorem rbytes_any (p : Nat) (o : Option Nat) (bs : List Int) (t : Nat) (n : Int) (w : World) (h : RdAt w p o bs t) :
    Calls Try.prog 34 #[.pointer (some ⟨p, 0, none⟩), .int .i64 n] w fun e w' => ∃ v, e = .returned (.tuple #[v, .bool (okY bs.length t n)]) ∧ Own .u8 5 w' v (resY bs t n) ∧ RdAt w' p o bs (nextY bs.length t n) ∧ Kept (· = p) w w' ∧ ∀ b, v.ownBlock = some b → w.heap.size ≤ b := by
  have hl : t ≤ 8 * bs.length := by obtain ⟨v, h1, h2, h3, h4, h5, h6, h7⟩ := h; exact h6
  by_cases hc : okY bs.length t n = true
  · have hc' := of_decide_eq_true hc
    obtain ⟨k, rfl⟩ : ∃ k : Nat, n = k := ⟨n.toNat, by omega⟩
    simp only [resY, nextY, hc, if_true, Int.toNat_natCast]
    by_cases hb : 0 < bs.length
    · exact rbytes_yes p o bs t (t / 8) k w h (by omega) (by omega) hb
    · have hb0 : bs = [] := List.eq_nil_of_length_eq_zero (by omega)
      subst hb0
      simp only [List.length_nil] at hc' hl
      have hk : k = 0 := by omega
      have ht : t = 0 := by omega
      subst hk ht
      exact rbytes_nil p o w h
  · have hc' : ¬ _ := fun hh => hc (decide_eq_true hh)
    have hf := Bool.eq_false_iff.2 hc
    simp only [resY, nextY, hf, Bool.false_eq_true, if_false]
    exact (rbytes_none p o bs t n w h (by omega)).mono fun e w' ⟨he, hm⟩ => ⟨_, he, own_nil_none _, (drewAt h hm).1, (drewAt h hm).2, fun b hb => by cases hb⟩
end Go.Proofs.Ytocahkmfopbdlaa
