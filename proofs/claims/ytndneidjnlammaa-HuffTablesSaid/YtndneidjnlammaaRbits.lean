/- A reader passes bits; new readers, new writers. -/
import Derived.Test.YtndneidjnlammaaRead
namespace Go.Proofs.Ytndneidjnlammaa
open Go.RowKit Pl
set_option linter.unusedVariables false
set_option maxRecDepth 100000 in
set_option maxHeartbeats 1000000 in
theorem rbits_no (p : Nat) (o : Option Nat) (bs : List Int) (at_ : Nat) (n : Int) (w : World) (h : RdAt w p o bs at_) (hn : n < 0 ∨ 32 < n ∨ 8 * (bs.length : Int) - at_ < n) :
    Calls Try.prog 31 #[.pointer (some ⟨p, 0, none⟩), .int .i64 n] w fun e w' => e = .returned (.tuple #[.int .u32 0, .bool false]) ∧ ∃ n, w' = w.drewN n := by
  have H := Lib.hid h
  clear h
  have HN := Lib.hid hn
  clear hn
  go_enter Try.func31, Try.ntmps31
  go_wp2_with (go_at_call 30; refine (peek_no p o bs at_ n _ H.out HN.out).mono ?_; rintro e w' ⟨rfl, m, rfl⟩)
  go_ret2
  exact ⟨rfl, _, rfl⟩
set_option maxRecDepth 100000 in
set_option maxHeartbeats 1000000 in
theorem rbits_yes (p : Nat) (o : Option Nat) (bs : List Int) (at_ n : Nat) (w : World) (h : RdAt w p o bs at_) (hn : n ≤ 32) (hl : at_ + n ≤ 8 * bs.length) :
    Calls Try.prog 31 #[.pointer (some ⟨p, 0, none⟩), .int .i64 n] w fun e w' => e = .returned (.tuple #[.int .u32 (bitsOf (nats bs) at_ n : Int), .bool true]) ∧ RdAt w' p o bs (at_ + n) ∧ Kept (· = p) w w' := by
  have H := Lib.hid h
  obtain ⟨v, h1, h2, h3, h4, h5, h6, h7⟩ := h
  obtain ⟨⟨-, -⟩, c1, f1⟩ := blk2 h1
  have HB := Lib.hid h1
  have HO := Lib.hid h2
  have H3 := Lib.hid h3
  clear h1 h2 h3
  go_enter Try.func31, Try.ntmps31
  go_wp2_with (go_at_call 30; refine (peek_yes p o bs at_ n _ H.out hn hl).mono ?_; rintro e w' ⟨rfl, m, rfl⟩)
  go_ret2
  have hk : Kept (· = p) w ((w.drewN m).setCell ⟨p, 1, none⟩ (.int .i64 ((at_ : Int) + n))) := by
    have h : Kept (· = p) w (w.drewN m) := (Kept.refl _ w).drewN m
    exact h.setCell (p := ⟨p, 1, none⟩) (.inl rfl) _
  refine ⟨rfl, ⟨v, ?_, HO.out.kept hk (fun b hb hp => h4 (by rw [← H3.out, hb]; exact congrArg some hp)), H3.out, h4, h5, by omega, h7⟩, hk⟩
  have := blk_set (w := w.drewN m) HB.out 1 (.int .i64 ((at_ : Int) + n))
  simpa [rdBlk] using this
set_option maxRecDepth 100000 in
set_option maxHeartbeats 1000000 in
theorem newReader (a : Option Addr) (len cap : Nat) (xs : List Int) (w : World) (hs : SlAt .u8 w a len xs) (hn : a = none → len = 0 ∧ cap = 0) (hl : len ≤ 70368744177664) (hb : Bytes xs) :
    Calls Try.prog 14 #[.slice a len cap] w fun e w' => ∃ p o, e = .returned (.pointer (some ⟨p, 0, none⟩)) ∧ RdAt w' p o xs 0 ∧ w.heap.size ≤ p ∧ (∀ b, o = some b → w.heap.size ≤ b) ∧ Kept (fun _ => False) w w' := by
  obtain rfl := hs.1
  go_enter Try.func14, Try.ntmps14
  go_wp2_with fail
  refine (clone_any a _ cap xs _ hs hn hl).mono ?_
  rintro e w1 ⟨v, rfl, ho, hk, hf⟩
  have hlt : ∀ b, v.ownBlock = some b → b < w1.heap.size := fun b h => (World.ownsRow.lt ho b h).2
  obtain ⟨a', c', rfl, -⟩ := ho.shape
  have HO := Lib.hid ho
  have hz := hk.size
  clear ho
  go_wp2
  go_ret
  exact ⟨w1.heap.size, _, rfl, ⟨_, blk_new _ _, HO.out.kept ((Kept.refl (fun _ => False) _).alloc _) (fun _ _ => id), rfl, (fun h => by have := hlt _ h; omega), hb, by omega, by omega⟩, hz, hf, hk.alloc _⟩
def wrBlk (v : Value) (held n : Nat) : Obj := .cells #[v, .int .u64 (held : Int), .int .i64 (n : Int)] 72 (0, 0)
/-- A writer at block p: its bytes in block o; all its bits as one number V, how many they are. -/
def WrAt (w : World) (p : Nat) (o : Option Nat) (V L : Nat) : Prop :=
  ∃ v bs held n, w.heap[p]? = some (wrBlk v held n) ∧ Own .u8 5 w v bs ∧ v.ownBlock = o ∧ o ≠ some p ∧ Bytes bs ∧ held < 2 ^ n ∧ n < 8 ∧ V = wval (nats bs) held ∧ L = 8 * bs.length + n
theorem WrAt.kept {S : Nat → Prop} {w w' : World} {p : Nat} {o : Option Nat} {V L : Nat} (h : WrAt w p o V L) (hk : Kept S w w') (hp : ¬ S p) (ho : ∀ b, o = some b → ¬ S b) : WrAt w' p o V L := by
  obtain ⟨v, bs, held, n, h1, h2, h3, h4⟩ := h
  exact ⟨v, bs, held, n, hk.blk h1 hp, h2.kept hk (fun b hb => ho b (h3 ▸ hb)), h3, h4⟩
theorem newWriter (w : World) : Calls Try.prog 20 #[] w fun e w' => ∃ p, e = .returned (.pointer (some ⟨p, 0, none⟩)) ∧ WrAt w' p none 0 0 ∧ w.heap.size ≤ p ∧ Kept (fun _ => False) w w' := by
  go_enter Try.func20, Try.ntmps20
  go_wp2
  go_ret
  exact ⟨w.heap.size, rfl, ⟨.slice none 0 0, [], 0, 0, blk_new _ _, Own.nil _ _ _, rfl, (fun h => by cases h), (fun _ h => by cases h), by decide, by decide, rfl, rfl⟩, Nat.le_refl _, (Kept.refl _ _).alloc _⟩
end Go.Proofs.Ytndneidjnlammaa
