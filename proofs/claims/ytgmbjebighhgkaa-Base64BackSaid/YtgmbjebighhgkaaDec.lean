/- The decoder of text: where it lies; NewDecoder, Reset, Held, IndexByte, clean, bytes. -/
import Derived.Test.YtgmbjebighhgkaaApp
import Derived.Test.YtgmbjebighhgkaaPlain
import Derived.Test.YtgmbjebighhgkaaStr
import Derived.Test.YtgmbjebighhgkaaRows
import Derived.StillTailTactics
import Derived.Lib.Bytealg
import Derived.Lib.Walk
import Derived.Laws.BitsAllLaws
import Derived.Lib.Hide
namespace Go.Proofs.Ytgmbjebighhgkaa
open Go.RowKit
set_option linter.unusedVariables false
set_option linter.unusedSimpArgs false
theorem blk5 {w : World} {b : Nat} {x y z u v : Value} {t : TypeId} (h : w.heap[b]? = some (.cells #[x, y, z, u, v] t (0, 0))) :
    (w.cell? ⟨b, 0, none⟩ = some x ∧ w.frozen? ⟨b, 0, none⟩ = false) ∧ (w.cell? ⟨b, 1, none⟩ = some y ∧ w.frozen? ⟨b, 1, none⟩ = false) ∧ (w.cell? ⟨b, 2, none⟩ = some z ∧ w.frozen? ⟨b, 2, none⟩ = false) ∧ (w.cell? ⟨b, 3, none⟩ = some u ∧ w.frozen? ⟨b, 3, none⟩ = false) ∧ (w.cell? ⟨b, 4, none⟩ = some v ∧ w.frozen? ⟨b, 4, none⟩ = false) :=
  ⟨⟨blk_cell h 0, blk_free h 0⟩, ⟨blk_cell h 1, blk_free h 1⟩, ⟨blk_cell h 2, blk_free h 2⟩, ⟨blk_cell h 3, blk_free h 3⟩, blk_cell h 4, blk_free h 4⟩
/-- The decoder's block: the bits, how many wait, how many of these fill up, over, bad. -/
def DC (w : World) (a v n f : Nat) (o b : Bool) : Prop := w.heap[a]? = some (.cells #[.int .u32 v, .int .i64 n, .int .i64 f, .bool o, .bool b] 48 (0, 0))
theorem DC.kept {S : Nat → Prop} {w w' : World} {a v n f : Nat} {o b : Bool} (h : DC w a v n f o b) (hk : Kept S w w') (hs : ¬ S a) : DC w' a v n f o b := hk.blk h hs
theorem five (v n f : Nat) (o b : Bool) : (#[Value.int .u32 v, .int .i64 n, .int .i64 f, .bool o, .bool b] : Array Value).size = 5 := rfl

set_option maxRecDepth 100000 in
set_option maxHeartbeats 4000000 in
theorem new_any (w : World) : Calls Try.prog 9 #[] w fun e w' => e = .returned (.pointer (some ⟨w.heap.size, 0, none⟩)) ∧ DC w' w.heap.size 0 0 0 false false ∧ Kept (fun _ => False) w w' := by
  go_enter Try.func9, Try.ntmps9
  go_wp2
  refine bodyPost_ret (v := .pointer (some ⟨w.heap.size, 0, none⟩)) (by simp [results, Try.results9, go_sem]) rfl ⟨rfl, blk_new w _, (Kept.refl _ w).alloc _⟩

set_option maxRecDepth 100000 in
set_option maxHeartbeats 4000000 in
theorem held_any (a v n f : Nat) (o b : Bool) (w : World) (h : DC w a v n f o b) : Calls Try.prog 15 #[.pointer (some ⟨a, 0, none⟩)] w fun e w' => e = .returned (.int .i64 n) ∧ w' = w := by
  obtain ⟨-, ⟨c1, -⟩, -⟩ := blk5 h
  clear h
  go_enter Try.func15, Try.ntmps15
  go_wp2
  exact bodyPost_ret (v := .int .i64 n) (by simp [results, Try.results15, go_sem]) rfl ⟨rfl, rfl⟩

/-- All five cells set. -/
theorem DC.all {w : World} {a v n f : Nat} {o b : Bool} (h : DC w a v n f o b) (v' n' f' : Nat) (o' b' : Bool) :
    ∃ w1 w2 w3 w4 w5, w.setCell ⟨a, 0, none⟩ (.int .u32 v') = w1 ∧ w1.setCell ⟨a, 1, none⟩ (.int .i64 n') = w2 ∧ w2.setCell ⟨a, 2, none⟩ (.int .i64 f') = w3 ∧ w3.setCell ⟨a, 3, none⟩ (.bool o') = w4 ∧ w4.setCell ⟨a, 4, none⟩ (.bool b') = w5 ∧
      DC w1 a v' n f o b ∧ DC w2 a v' n' f o b ∧ DC w3 a v' n' f' o b ∧ DC w4 a v' n' f' o' b ∧ DC w5 a v' n' f' o' b' ∧ Kept (fun i => i = a) w w5 := by
  refine ⟨_, _, _, _, _, rfl, rfl, rfl, rfl, rfl, ?_⟩
  have h1 : DC (w.setCell ⟨a, 0, none⟩ (.int .u32 v')) a v' n f o b := blk_set h 0 _
  have h2 := blk_set h1 1 (.int .i64 n')
  have h3 := blk_set h2 2 (.int .i64 f')
  have h4 := blk_set h3 3 (.bool o')
  have h5 := blk_set h4 4 (.bool b')
  refine ⟨h1, h2, h3, h4, h5, ?_⟩
  exact ((((((Kept.refl (fun i => i = a) w).setCell (p := ⟨a, 0, none⟩) (.inl rfl) _).setCell (p := ⟨a, 1, none⟩) (.inl rfl) _).setCell (p := ⟨a, 2, none⟩) (.inl rfl) _).setCell (p := ⟨a, 3, none⟩) (.inl rfl) _).setCell (p := ⟨a, 4, none⟩) (.inl rfl) _)

set_option maxRecDepth 100000 in
set_option maxHeartbeats 4000000 in
theorem reset_any (a v n f : Nat) (o b : Bool) (w : World) (h : DC w a v n f o b) : Calls Try.prog 12 #[.pointer (some ⟨a, 0, none⟩)] w fun e w' => e = .returned (.tuple #[]) ∧ DC w' a 0 0 0 false false ∧ Kept (fun i => i = a) w w' := by
  obtain ⟨c0, c1, c2, c3, c4⟩ := blk5 h
  have H := Lib.hid h
  clear h
  go_enter Try.func12, Try.ntmps12
  go_wp2
  go_end0
  obtain ⟨_, _, _, _, _, rfl, rfl, rfl, rfl, rfl, -, -, -, -, h5, hk⟩ := H.out.all 0 0 0 false false
  exact ⟨rfl, h5, hk⟩

set_option maxHeartbeats 1000000 in
set_option maxRecDepth 100000 in
theorem index35 (s : ByteArray) (c : Int) (w : World) :
    Calls Try.prog 35 #[.string s, .int .u8 c] w fun e w' => e = .returned (.int .i64 (Lib.indexByte s.data.toList c.toNat.toUInt8)) ∧ w' = w := by
  go_enter Try.func35, Try.ntmps35
  go_wp2
  rw [run_callFunc_extern Try.func36 (by kernel_rfl) (by kernel_rfl) (by kernel_rfl) (e := Extern.BytealgIndexByte.indexByte) (by kernel_rfl), Lib.run_indexByteString]
  simp only [Result.andThen]
  rw [Oper.upon_value]
  go_wp2
  go_ret
  exact ⟨rfl, rfl⟩
def alphabet : List Nat := (List.range 26).map (· + 65) ++ (List.range 26).map (· + 97) ++ (List.range 10).map (· + 48) ++ [43, 47]
theorem index_all : (List.range 256).all (fun c => decide (Lib.indexByte (alphabet.map fun n => UInt8.ofNat n) (UInt8.ofNat c) = if val c = 64 then -1 else (val c : Int))) = true := by kernel_rfl
theorem index_at {c : Nat} (h : c < 256) : Lib.indexByte (alphabet.map fun n => UInt8.ofNat n) (UInt8.ofNat c) = if val c = 64 then -1 else (val c : Int) := by
  have := List.all_eq_true.1 index_all c (by simp; omega)
  exact of_decide_eq_true this
set_option maxHeartbeats 1000000 in
set_option maxRecDepth 100000 in
theorem index_any (c : Nat) (hc : c < 256) (w : World) (s : ByteArray) (hs : s.data.toList = alphabet.map fun n => UInt8.ofNat n) :
    Calls Try.prog 34 #[.string s, .int .u8 c] w fun e w' => e = .returned (.int .i64 (if val c = 64 then -1 else (val c : Int))) ∧ w' = w := by
  have hi := index_at hc
  rw [← hs] at hi
  obtain ⟨r, hr⟩ : ∃ r : Int, (if val c = 64 then -1 else (val c : Int)) = r := ⟨_, rfl⟩
  rw [hr] at hi ⊢
  have H := Lib.hid (index35 s c w)
  have hi' : Lib.indexByte s.data.toList (c : Int).toNat.toUInt8 = r := by simpa using hi
  rw [hi'] at H
  clear hi hi' hr hs
  go_enter Try.func34, Try.ntmps34
  go_wp2_with fail
  refine H.out.mono ?_
  rintro e w' ⟨rfl, rfl⟩
  go_wp2
  go_ret
  exact ⟨rfl, rfl⟩

set_option maxRecDepth 100000 in
set_option maxHeartbeats 4000000 in
theorem clean_any (a v n f : Nat) (o b : Bool) (w : World) (h : DC w a v n f o b) (hn : (n = 0 ∧ f = 0 ∧ v = 0) ∨ (n = 2 ∧ f = 0) ∨ (n = 3 ∧ f = 0) ∨ (n = 3 ∧ f = 1)) (hv : v < 16777216) :
    Calls Try.prog 21 #[.pointer (some ⟨a, 0, none⟩)] w fun e w' => e = .returned (.bool (decide (v % 2 ^ ((n - f) * 6 % 8) = 0))) ∧ Kept (fun _ => False) w w' := by
  obtain ⟨⟨c0, -⟩, ⟨c1, -⟩, ⟨c2, -⟩, -⟩ := blk5 h
  have HK := Lib.hid ((Kept.refl (fun _ => False) w).drew)
  clear h
  have l0 : IntKind.i64.wrap 0 = 0 := by decide
  have l1 : IntKind.i64.wrap 2 = 2 := by decide
  have l2 : IntKind.i64.wrap 3 = 3 := by decide
  have l3 : IntKind.i64.wrap 12 = 12 := by decide
  have l4 : IntKind.i64.wrap 18 = 18 := by decide
  have t0 : (0 : Int).tmod 8 = 0 := by decide
  have t1 : (12 : Int).tmod 8 = 4 := by decide
  have t2 : (18 : Int).tmod 8 = 2 := by decide
  have u0 : IntKind.u32.wrap 0 = 0 := by decide
  have u1 : IntKind.u32.wrap 1 = 1 := by decide
  have u2 : IntKind.u32.wrap 16 = 16 := by decide
  have u3 : IntKind.u32.wrap 15 = 15 := by decide
  have u4 : IntKind.u32.wrap 4 = 4 := by decide
  have u5 : IntKind.u32.wrap 3 = 3 := by decide
  have a0 : bits BinOp.and .u32 0 0 = 0 := by decide
  have a1 : bits BinOp.and .u32 (v : Int) 15 = ((v % 16 : Nat) : Int) := by
    rw [show (15 : Int) = ((15 : Nat) : Int) from rfl, u32_and_nat _ _ (by omega) (by omega), show (15 : Nat) = 2 ^ 4 - 1 from rfl, Nat.and_two_pow_sub_one_eq_mod]
  have a2 : bits BinOp.and .u32 (v : Int) 3 = ((v % 4 : Nat) : Int) := by
    rw [show (3 : Int) = ((3 : Nat) : Int) from rfl, u32_and_nat _ _ (by omega) (by omega), show (3 : Nat) = 2 ^ 2 - 1 from rfl, Nat.and_two_pow_sub_one_eq_mod]
  have e1 : (((v % 16 : Nat) : Int) == 0) = decide (v % 16 = 0) := by rw [show (((v % 16 : Nat) : Int) == 0) = decide (((v % 16 : Nat) : Int) = 0) from rfl]; exact decide_eq_decide.2 (by omega)
  have e2 : (((v % 4 : Nat) : Int) == 0) = decide (v % 4 = 0) := by rw [show (((v % 4 : Nat) : Int) == 0) = decide (((v % 4 : Nat) : Int) = 0) from rfl]; exact decide_eq_decide.2 (by omega)
  obtain ⟨r1, q1⟩ : ∃ r, v % 16 = r := ⟨_, rfl⟩
  obtain ⟨r2, q2⟩ : ∃ r, v % 4 = r := ⟨_, rfl⟩
  rcases hn with ⟨rfl, rfl, rfl⟩ | ⟨rfl, rfl⟩ | ⟨rfl, rfl⟩ | ⟨rfl, rfl⟩
  · clear a1 a2 e1 e2 q1 q2
    go_enter Try.func21, Try.ntmps21
    go_wp2
    go_still (by kernel_rfl)
    go_wp2
    exact bodyPost_ret (v := .bool true) (by simp [results, Try.results21, go_sem]) rfl ⟨rfl, HK.out⟩
  · rw [show v % 2 ^ ((2 - 0) * 6 % 8) = v % 16 from rfl, q1]
    rw [q1] at a1 e1
    go_enter Try.func21, Try.ntmps21
    go_wp2
    go_still (by kernel_rfl)
    go_wp2
    exact bodyPost_ret (v := .bool (decide (r1 = 0))) (by simp [results, Try.results21, go_sem]) rfl ⟨rfl, HK.out⟩
  · rw [show v % 2 ^ ((3 - 0) * 6 % 8) = v % 4 from rfl, q2]
    rw [q2] at a2 e2
    go_enter Try.func21, Try.ntmps21
    go_wp2
    go_still (by kernel_rfl)
    go_wp2
    exact bodyPost_ret (v := .bool (decide (r2 = 0))) (by simp [results, Try.results21, go_sem]) rfl ⟨rfl, HK.out⟩
  · rw [show v % 2 ^ ((3 - 1) * 6 % 8) = v % 16 from rfl, q1]
    rw [q1] at a1 e1
    go_enter Try.func21, Try.ntmps21
    go_wp2
    go_still (by kernel_rfl)
    go_wp2
    exact bodyPost_ret (v := .bool (decide (r1 = 0))) (by simp [results, Try.results21, go_sem]) rfl ⟨rfl, HK.out⟩

set_option maxRecDepth 100000 in
set_option maxHeartbeats 4000000 in
theorem bytes_walk (a v n f m k x : Nat) (o b : Bool) (w : World) (h : DC w a v n f o b) (hn : (n = 4 ∧ f = 0 ∧ m = 0 ∧ k = 3) ∨ (n = 4 ∧ f = 1 ∧ m = 6 ∧ k = 2) ∨ (n = 4 ∧ f = 2 ∧ m = 12 ∧ k = 1) ∨ (n = 0 ∧ f = 0 ∧ m = 24 ∧ k = 0) ∨ (n = 2 ∧ f = 0 ∧ m = 12 ∧ k = 1) ∨ (n = 3 ∧ f = 0 ∧ m = 6 ∧ k = 2)) (hx : v * 2 ^ m = x) (hv : x < 16777216) :
    Calls Try.prog 22 #[.pointer (some ⟨a, 0, none⟩)] w fun e w' => ∃ c, e = .returned c ∧ Own .u8 5 w' c ((oct x).take k |>.map (fun (n : Nat) => (n : Int))) ∧ Kept (fun _ => False) w w' ∧ (c.ownBlock = none ∨ ∃ g, c.ownBlock = some g ∧ w.heap.size ≤ g) := by
  obtain ⟨⟨c0, -⟩, ⟨c1, -⟩, ⟨c2, -⟩, -⟩ := blk5 h
  have hd : DC w.drew a v n f o b := h
  obtain ⟨p, hp⟩ : ∃ p, x / 65536 % 256 = p := ⟨_, rfl⟩
  obtain ⟨q, hq⟩ : ∃ p, x / 256 % 256 = p := ⟨_, rfl⟩
  obtain ⟨r, hr⟩ : ∃ p, x % 256 = p := ⟨_, rfl⟩
  have hoct : oct x = [p, q, r] := by unfold oct; rw [hp, hq, hr]
  rw [hoct]
  have hdW : DC (w.alloc (.cells #[.int .u8 (p : Int), .int .u8 (q : Int), .int .u8 (r : Int)] 5)) a v n f o b := h.kept ((Kept.refl (fun _ => False) _).alloc _) id
  obtain ⟨⟨d0, -⟩, ⟨d1, -⟩, ⟨d2, -⟩, -⟩ := blk5 hd
  obtain ⟨-, ⟨g1, -⟩, ⟨g2, -⟩, -⟩ := blk5 hdW
  have ho : Own .u8 5 (w.alloc (.cells #[.int .u8 (p : Int), .int .u8 (q : Int), .int .u8 (r : Int)] 5)) (.slice (some ⟨w.heap.size, 0, none⟩) k 3) ([p, q, r].take k |>.map (fun (n : Nat) => (n : Int))) := by
    refine ⟨by simp, .inr ⟨w.heap.size, 3, _, ?_, Nat.zero_le _, blk_new w _, by simp; omega, by simp [maxLen], rfl, ?_⟩⟩
    · rcases hn with ⟨-, -, -, rfl⟩ | ⟨-, -, -, rfl⟩ | ⟨-, -, -, rfl⟩ | ⟨-, -, -, rfl⟩ | ⟨-, -, -, rfl⟩ | ⟨-, -, -, rfl⟩ <;> rfl
    · rcases hn with ⟨-, -, -, rfl⟩ | ⟨-, -, -, rfl⟩ | ⟨-, -, -, rfl⟩ | ⟨-, -, -, rfl⟩ | ⟨-, -, -, rfl⟩ | ⟨-, -, -, rfl⟩ <;> rfl
  have HO := Lib.hid ho
  have HK := Lib.hid ((Kept.refl (fun _ => False) w).alloc (.cells #[.int .u8 (p : Int), .int .u8 (q : Int), .int .u8 (r : Int)] 5))
  clear ho hoct
  clear h hd hdW
  have l0 : IntKind.i64.wrap 0 = 0 := by decide
  have l1 : IntKind.i64.wrap 2 = 2 := by decide
  have l2 : IntKind.i64.wrap 3 = 3 := by decide
  have l3 : IntKind.i64.wrap 12 = 12 := by decide
  have l4 : IntKind.i64.wrap 18 = 18 := by decide
  have l5 : IntKind.i64.wrap 1 = 1 := by decide
  have l6 : IntKind.i64.wrap 4 = 4 := by decide
  have l7 : IntKind.i64.wrap 6 = 6 := by decide
  have l8 : IntKind.i64.wrap 24 = 24 := by decide
  have hxx : IntKind.u32.wrap ((v : Int) * 2 ^ m) = (x : Int) := by
    rw [IntKind.wrap_u32, show (2 : Int) ^ m = ((2 ^ m : Nat) : Int) by simp]
    omega
  have y1 : IntKind.u8.wrap ((x : Int) / 65536) = (p : Int) := by rw [IntKind.wrap_u8]; omega
  have y2 : IntKind.u8.wrap ((x : Int) / 256) = (q : Int) := by rw [IntKind.wrap_u8]; omega
  have y3 : IntKind.u8.wrap (x : Int) = (r : Int) := by rw [IntKind.wrap_u8]; omega
  rcases hn with ⟨rfl, rfl, rfl, rfl⟩ | ⟨rfl, rfl, rfl, rfl⟩ | ⟨rfl, rfl, rfl, rfl⟩ | ⟨rfl, rfl, rfl, rfl⟩ | ⟨rfl, rfl, rfl, rfl⟩ | ⟨rfl, rfl, rfl, rfl⟩
  · have hx2 : IntKind.u32.wrap (v : Int) = (x : Int) := by simpa using hxx
    clear hxx
    go_enter Try.func22, Try.ntmps22
    go_wp2
    go_still (by kernel_rfl)
    go_wp2
    go_region_law (fail)
    all_goals go_wp2
    all_goals exact bodyPost_ret (v := .slice (some ⟨w.heap.size, 0, none⟩) 3 3) (by simp [results, Try.results22, go_sem]) rfl ⟨_, rfl, HO.out.kept (Kept.refl _ _).drew.drew (fun _ _ => id), HK.out.drew.drew, .inr ⟨w.heap.size, rfl, Nat.le_refl _⟩⟩
  · have hx2 : IntKind.u32.wrap ((v : Int) * 64) = (x : Int) := by simpa using hxx
    clear hxx
    go_enter Try.func22, Try.ntmps22
    go_wp2
    go_still (by kernel_rfl)
    go_wp2
    go_region_law (fail)
    all_goals go_wp2
    all_goals exact bodyPost_ret (v := .slice (some ⟨w.heap.size, 0, none⟩) 2 3) (by simp [results, Try.results22, go_sem]) rfl ⟨_, rfl, HO.out.kept (Kept.refl _ _).drew.drew (fun _ _ => id), HK.out.drew.drew, .inr ⟨w.heap.size, rfl, Nat.le_refl _⟩⟩
  · have hx2 : IntKind.u32.wrap ((v : Int) * 4096) = (x : Int) := by simpa using hxx
    clear hxx
    go_enter Try.func22, Try.ntmps22
    go_wp2
    go_still (by kernel_rfl)
    go_wp2
    go_region_law (fail)
    all_goals go_wp2
    all_goals exact bodyPost_ret (v := .slice (some ⟨w.heap.size, 0, none⟩) 1 3) (by simp [results, Try.results22, go_sem]) rfl ⟨_, rfl, HO.out.kept (Kept.refl _ _).drew.drew (fun _ _ => id), HK.out.drew.drew, .inr ⟨w.heap.size, rfl, Nat.le_refl _⟩⟩
  · have hx2 : IntKind.u32.wrap ((v : Int) * 16777216) = (x : Int) := by simpa using hxx
    clear hxx
    go_enter Try.func22, Try.ntmps22
    go_wp2
    go_still (by kernel_rfl)
    go_wp2
    go_region_law (fail)
    all_goals go_wp2
    all_goals exact bodyPost_ret (v := .slice (some ⟨w.heap.size, 0, none⟩) 0 3) (by simp [results, Try.results22, go_sem]) rfl ⟨_, rfl, HO.out.kept (Kept.refl _ _).drew.drew (fun _ _ => id), HK.out.drew.drew, .inr ⟨w.heap.size, rfl, Nat.le_refl _⟩⟩
  · have hx2 : IntKind.u32.wrap ((v : Int) * 4096) = (x : Int) := by simpa using hxx
    clear hxx
    go_enter Try.func22, Try.ntmps22
    go_wp2
    go_still (by kernel_rfl)
    go_wp2
    go_region_law (fail)
    all_goals go_wp2
    all_goals exact bodyPost_ret (v := .slice (some ⟨w.heap.size, 0, none⟩) 1 3) (by simp [results, Try.results22, go_sem]) rfl ⟨_, rfl, HO.out.kept (Kept.refl _ _).drew.drew (fun _ _ => id), HK.out.drew.drew, .inr ⟨w.heap.size, rfl, Nat.le_refl _⟩⟩
  · have hx2 : IntKind.u32.wrap ((v : Int) * 64) = (x : Int) := by simpa using hxx
    clear hxx
    go_enter Try.func22, Try.ntmps22
    go_wp2
    go_still (by kernel_rfl)
    go_wp2
    go_region_law (fail)
    all_goals go_wp2
    all_goals exact bodyPost_ret (v := .slice (some ⟨w.heap.size, 0, none⟩) 2 3) (by simp [results, Try.results22, go_sem]) rfl ⟨_, rfl, HO.out.kept (Kept.refl _ _).drew.drew (fun _ _ => id), HK.out.drew.drew, .inr ⟨w.heap.size, rfl, Nat.le_refl _⟩⟩
end Go.Proofs.Ytgmbjebighhgkaa
