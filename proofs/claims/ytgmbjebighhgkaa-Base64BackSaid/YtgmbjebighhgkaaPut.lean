/- One sign: put, Put. -/
import Derived.Test.YtgmbjebighhgkaaDec
namespace Go.Proofs.Ytgmbjebighhgkaa
open Go.RowKit
set_option linter.unusedVariables false
set_option linter.unusedSimpArgs false
theorem alpha_eq (s : ByteArray) (h : s = ⟨(alphabet.map fun n => UInt8.ofNat n).toArray⟩) : s.data.toList = alphabet.map fun n => UInt8.ofNat n := by rw [h]
theorem index_some (c : Nat) (hc : c < 256) (hv : val c < 64) (w : World) (s : ByteArray) (hs : s.data.toList = alphabet.map fun n => UInt8.ofNat n) :
    Calls Try.prog 34 #[.string s, .int .u8 c] w fun e w' => e = .returned (.int .i64 (val c : Nat)) ∧ w' = w := by
  have := index_any c hc w s hs
  rwa [if_neg (by omega)] at this
theorem index_none (c : Nat) (hc : c < 256) (hv : val c = 64) (w : World) (s : ByteArray) (hs : s.data.toList = alphabet.map fun n => UInt8.ofNat n) :
    Calls Try.prog 34 #[.string s, .int .u8 c] w fun e w' => e = .returned (.int .i64 (-1)) ∧ w' = w := by
  have := index_any c hc w s hs
  rwa [if_pos hv] at this
theorem index_61 (w : World) (s : ByteArray) (hs : s.data.toList = alphabet.map fun n => UInt8.ofNat n) :
    Calls Try.prog 34 #[.string s, .int .u8 61] w fun e w' => e = .returned (.int .i64 (-1)) ∧ w' = w := index_none 61 (by omega) val_fill w s hs

set_option maxRecDepth 100000 in
set_option maxHeartbeats 4000000 in
theorem putB_over (a v n f c : Nat) (o b : Bool) (w : World) (h : DC w a v n f o b) (hc : c < 256) (ho : o = true) :
    Calls Try.prog 31 #[.pointer (some ⟨a, 0, none⟩), .int .u8 c] w fun e w' => e = .returned (.tuple #[.slice none 0 0, .bool false]) ∧ Kept (fun _ => False) w w' := by
  obtain ⟨⟨c0, -⟩, ⟨c1, -⟩, ⟨c2, -⟩, ⟨c3, -⟩, ⟨c4, -⟩⟩ := blk5 h
  subst ho
  obtain ⟨r, hr⟩ : ∃ r : Int, (if val c = 64 then -1 else (val c : Int)) = r := ⟨_, rfl⟩
  have HI := Lib.hid (index_any c hc w)
  rw [hr] at HI
  clear hr h
  have HK := Lib.hid (Kept.refl (fun _ => False) w)
  go_enter Try.func31, Try.ntmps31
  go_wp2_with fail
  refine (HI.out _ (by kernel_rfl)).mono ?_
  rintro e w' ⟨rfl, rfl⟩
  go_wp2
  all_goals exact bodyPost_ret (v := .tuple #[.slice none 0 0, .bool false]) (by simp [results, Try.results31, go_sem]) rfl ⟨rfl, HK.out⟩

set_option maxRecDepth 100000 in
set_option maxHeartbeats 4000000 in
theorem putB_few (a v n f : Nat) (o b : Bool) (w : World) (h : DC w a v n f o b) (ho : o = false) (hn : n < 2) :
    Calls Try.prog 31 #[.pointer (some ⟨a, 0, none⟩), .int .u8 61] w fun e w' => e = .returned (.tuple #[.slice none 0 0, .bool false]) ∧ Kept (fun _ => False) w w' := by
  obtain ⟨⟨c0, -⟩, ⟨c1, -⟩, ⟨c2, -⟩, ⟨c3, -⟩, ⟨c4, -⟩⟩ := blk5 h
  subst ho
  have g1 : decide (n < 2) = true := decide_eq_true hn
  clear h
  have HK := Lib.hid (Kept.refl (fun _ => False) w)
  go_enter Try.func31, Try.ntmps31
  go_wp2_with fail
  refine (index_61 _ _ (by kernel_rfl)).mono ?_
  rintro e w' ⟨rfl, rfl⟩
  go_wp2
  all_goals exact bodyPost_ret (v := .tuple #[.slice none 0 0, .bool false]) (by simp [results, Try.results31, go_sem]) rfl ⟨rfl, HK.out⟩

set_option maxRecDepth 100000 in
set_option maxHeartbeats 4000000 in
theorem putB_none (a v n f c : Nat) (o b : Bool) (w : World) (h : DC w a v n f o b) (hc : c < 256) (ho : o = false) (hv : val c = 64) (h61 : c ≠ 61) :
    Calls Try.prog 31 #[.pointer (some ⟨a, 0, none⟩), .int .u8 c] w fun e w' => e = .returned (.tuple #[.slice none 0 0, .bool false]) ∧ Kept (fun _ => False) w w' := by
  obtain ⟨⟨c0, -⟩, ⟨c1, -⟩, ⟨c2, -⟩, ⟨c3, -⟩, ⟨c4, -⟩⟩ := blk5 h
  subst ho
  have g1 : ((c : Int) == 61) = false := by simp; omega
  clear h
  have HK := Lib.hid (Kept.refl (fun _ => False) w)
  go_enter Try.func31, Try.ntmps31
  go_wp2_with fail
  refine (index_none c hc hv _ _ (by kernel_rfl)).mono ?_
  rintro e w' ⟨rfl, rfl⟩
  go_wp2
  all_goals exact bodyPost_ret (v := .tuple #[.slice none 0 0, .bool false]) (by simp [results, Try.results31, go_sem]) rfl ⟨rfl, HK.out⟩

set_option maxRecDepth 100000 in
set_option maxHeartbeats 4000000 in
theorem putB_late (a v n f c : Nat) (o b : Bool) (w : World) (h : DC w a v n f o b) (hc : c < 256) (ho : o = false) (hv : val c < 64) (hf : 0 < f) :
    Calls Try.prog 31 #[.pointer (some ⟨a, 0, none⟩), .int .u8 c] w fun e w' => e = .returned (.tuple #[.slice none 0 0, .bool false]) ∧ Kept (fun _ => False) w w' := by
  obtain ⟨⟨c0, -⟩, ⟨c1, -⟩, ⟨c2, -⟩, ⟨c3, -⟩, ⟨c4, -⟩⟩ := blk5 h
  subst ho
  have h61 := ne_of_val hv
  have g1 : ((c : Int) == 61) = false := by simp; omega
  have g2 : decide (0 < f) = true := decide_eq_true hf
  obtain ⟨x, hx⟩ : ∃ x, val c = x := ⟨_, rfl⟩
  have HI := Lib.hid (index_some c hc hv w)
  rw [hx] at HI
  clear h hx hv
  have HK := Lib.hid (Kept.refl (fun _ => False) w)
  go_enter Try.func31, Try.ntmps31
  go_wp2_with fail
  refine (HI.out _ (by kernel_rfl)).mono ?_
  rintro e w' ⟨rfl, rfl⟩
  go_wp2
  all_goals exact bodyPost_ret (v := .tuple #[.slice none 0 0, .bool false]) (by simp [results, Try.results31, go_sem]) rfl ⟨rfl, HK.out⟩

set_option maxRecDepth 100000 in
set_option maxHeartbeats 4000000 in
theorem putB_dirty (a v n f : Nat) (b : Bool) (w : World) (h : DC w a v n f false b) (hn : n = 2 ∧ f = 0 ∨ n = 3 ∧ f = 0 ∨ n = 3 ∧ f = 1) (hv : v < 16777216) (hcl : decide (v % 2 ^ ((n - f) * 6 % 8) = 0) = false) :
    Calls Try.prog 31 #[.pointer (some ⟨a, 0, none⟩), .int .u8 61] w fun e w' => e = .returned (.tuple #[.slice none 0 0, .bool false]) ∧ Kept (fun _ => False) w w' := by
  have HC := Lib.hid (clean_any a v n f false b w h (by omega) hv)
  rw [hcl] at HC
  obtain ⟨⟨c0, -⟩, ⟨c1, -⟩, ⟨c2, -⟩, ⟨c3, -⟩, ⟨c4, -⟩⟩ := blk5 h
  clear h hcl
  have l2 : IntKind.i64.wrap 2 = 2 := by decide
  rcases hn with ⟨rfl, rfl⟩ | ⟨rfl, rfl⟩ | ⟨rfl, rfl⟩
  all_goals
    go_enter Try.func31, Try.ntmps31
    go_wp2_with fail
    refine (index_61 _ _ (by kernel_rfl)).mono ?_
    rintro e w' ⟨rfl, rfl⟩
    go_wp2_with fail
    refine HC.out.mono ?_
    rintro e w1 ⟨rfl, hk⟩
    go_wp2
    exact bodyPost_ret (v := .tuple #[.slice none 0 0, .bool false]) (by simp [results, Try.results31, go_sem]) rfl ⟨rfl, hk⟩

set_option maxRecDepth 100000 in
set_option maxHeartbeats 4000000 in
theorem putB_pad (a v n f : Nat) (b : Bool) (w : World) (h : DC w a v n f false b) (hn : n = 2 ∧ f = 0) (hv : v < 16777216) (hcl : decide (v % 2 ^ ((n - f) * 6 % 8) = 0) = true) :
    Calls Try.prog 31 #[.pointer (some ⟨a, 0, none⟩), .int .u8 61] w fun e w' => e = .returned (.tuple #[.slice none 0 0, .bool true]) ∧ DC w' a v 3 1 false b ∧ Kept (fun i => i = a) w w' := by
  have HC := Lib.hid (clean_any a v n f false b w h (by omega) hv)
  rw [hcl] at HC
  obtain ⟨rfl, rfl⟩ := hn
  obtain ⟨⟨c0, -⟩, ⟨c1, -⟩, ⟨c2, -⟩, ⟨c3, -⟩, ⟨c4, -⟩⟩ := blk5 h
  have H := Lib.hid h
  clear h hcl
  have l1 : IntKind.i64.wrap 1 = 1 := by decide
  have l3 : IntKind.i64.wrap 3 = 3 := by decide
  go_enter Try.func31, Try.ntmps31
  go_wp2_with fail
  refine (index_61 _ _ (by kernel_rfl)).mono ?_
  rintro e w' ⟨rfl, rfl⟩
  go_wp2_with fail
  refine HC.out.mono ?_
  rintro e w1 ⟨rfl, hk⟩
  have h1 := H.out.kept hk id
  clear c0 c1 c2 c3 c4
  obtain ⟨⟨c0, -⟩, ⟨c1, f1⟩, ⟨c2, f2⟩, ⟨c3, -⟩, ⟨c4, -⟩⟩ := blk5 h1
  have H1 := Lib.hid h1
  have h2 : DC (w1.setCell ⟨a, 2, none⟩ (.int .i64 1)) a v 2 1 false b := blk_set h1 2 (.int .i64 1)
  have h3 : DC ((w1.setCell ⟨a, 2, none⟩ (.int .i64 1)).setCell ⟨a, 1, none⟩ (.int .i64 3)) a v 3 1 false b := blk_set h2 1 (.int .i64 3)
  obtain ⟨-, ⟨d1, e1⟩, -⟩ := blk5 h2
  obtain ⟨-, ⟨k1, -⟩, -⟩ := blk5 h3
  have HK := Lib.hid ((((hk.mono fun _ _ h => h.elim : Kept (fun i => i = a) w' w1)).setCell (p := ⟨a, 2, none⟩) (.inl rfl) (.int .i64 1)).setCell (p := ⟨a, 1, none⟩) (.inl rfl) (.int .i64 3))
  have H3 := Lib.hid h3
  clear h1 h2 h3 hk
  go_wp2
  exact bodyPost_ret (v := .tuple #[.slice none 0 0, .bool true]) (by simp [results, Try.results31, go_sem]) rfl ⟨rfl, H3.out, HK.out⟩

set_option maxRecDepth 100000 in
set_option maxHeartbeats 4000000 in
theorem putB_last1 (a v n f : Nat) (b : Bool) (w : World) (h : DC w a v n f false b) (hn : n = 3) (hf : f = 0) (hv : v < 262144) (hcl : decide (v % 2 ^ ((n - f) * 6 % 8) = 0) = true) :
    Calls Try.prog 31 #[.pointer (some ⟨a, 0, none⟩), .int .u8 61] w fun e w' => ∃ u, e = .returned (.tuple #[u, .bool true]) ∧ Own .u8 5 w' u ((oct (v * 2 ^ 6)).take 2 |>.map (fun (n : Nat) => (n : Int))) ∧ DC w' a 0 0 0 true false ∧ Kept (fun i => i = a) w w' ∧ (u.ownBlock = none ∨ ∃ g, u.ownBlock = some g ∧ w.heap.size ≤ g) := by
  have HC := Lib.hid (clean_any a v n f false b w h (by omega) (by omega))
  rw [hcl] at HC
  have HV := Lib.hid hv
  subst hn hf
  have haw : a < w.heap.size := lt_of_blk h
  obtain ⟨⟨c0, -⟩, ⟨c1, -⟩, ⟨c2, -⟩, ⟨c3, -⟩, ⟨c4, -⟩⟩ := blk5 h
  have H := Lib.hid h
  clear h hcl
  have l1 : IntKind.i64.wrap 1 = 1 := by decide
  have l3 : IntKind.i64.wrap 4 = 4 := by decide
  go_enter Try.func31, Try.ntmps31
  go_wp2_with fail
  refine (index_61 _ _ (by kernel_rfl)).mono ?_
  rintro e w' ⟨rfl, rfl⟩
  go_wp2_with fail
  refine HC.out.mono ?_
  rintro e w1 ⟨rfl, hk⟩
  have h1 := H.out.kept hk id
  clear c0 c1 c2 c3 c4
  obtain ⟨⟨c0, -⟩, ⟨c1, f1⟩, ⟨c2, f2⟩, ⟨c3, -⟩, ⟨c4, -⟩⟩ := blk5 h1
  have h2 : DC (w1.setCell ⟨a, 2, none⟩ (.int .i64 1)) a v 3 1 false b := blk_set h1 2 (.int .i64 1)
  have h3 : DC ((w1.setCell ⟨a, 2, none⟩ (.int .i64 1)).setCell ⟨a, 1, none⟩ (.int .i64 4)) a v 4 1 false b := blk_set h2 1 (.int .i64 4)
  obtain ⟨-, ⟨d1, e1⟩, -⟩ := blk5 h2
  obtain ⟨-, ⟨k1, -⟩, -⟩ := blk5 h3
  have HK := Lib.hid ((((hk.mono fun _ _ h => h.elim : Kept (fun i => i = a) w' w1)).setCell (p := ⟨a, 2, none⟩) (.inl rfl) (.int .i64 1)).setCell (p := ⟨a, 1, none⟩) (.inl rfl) (.int .i64 4))
  have H3 := Lib.hid h3
  clear h1 h2 h3 hk hv
  go_wp2_with fail
  refine (bytes_walk a v 4 1 6 2 _ false b _ H3.out (by omega) rfl (by have := HV.out; omega)).mono ?_
  rintro e w2 ⟨u, rfl, hu, hk2, hub⟩
  have h4 := H3.out.kept hk2 id
  have HK2 := Lib.hid (HK.out.then (hk2.mono fun _ _ h => h.elim))
  have hsz := HK.out.size
  have haU : u.ownBlock ≠ some a := by
    rcases hub with h | ⟨g, h, hg⟩
    · rw [h]; simp
    · rw [h]; intro e; have := Option.some.inj e; omega
  have HB : u.ownBlock = none ∨ ∃ g, u.ownBlock = some g ∧ w'.heap.size ≤ g := by
    rcases hub with h | ⟨g, h, hg⟩
    · exact .inl h
    · exact .inr ⟨g, h, by omega⟩
  have HBB := Lib.hid HB
  have HU := Lib.hid (And.intro hu haU)
  clear hu haU hub HB c0 c1 c2 c3 c4 d1 e1 k1 f1 f2 hk2
  obtain ⟨⟨c0, f0⟩, ⟨c1, f1⟩, ⟨c2, f2⟩, ⟨c3, f3⟩, ⟨c4, f4⟩⟩ := blk5 h4
  have H4 := Lib.hid h4
  clear h4
  go_wp2
  obtain ⟨_, _, _, _, _, rfl, rfl, rfl, rfl, rfl, -, -, -, -, h5, hk5⟩ := H4.out.all 0 0 0 true false
  exact bodyPost_ret (v := .tuple #[u, .bool true]) (by simp [results, Try.results31, go_sem]) rfl ⟨_, rfl, HU.out.1.kept hk5 (fun b hb (hS : b = a) => HU.out.2 (by rw [hb, hS])), h5, HK2.out.then hk5, HBB.out⟩

set_option maxRecDepth 100000 in
set_option maxHeartbeats 4000000 in
theorem putB_last2 (a v n f : Nat) (b : Bool) (w : World) (h : DC w a v n f false b) (hn : n = 3) (hf : f = 1) (hv : v < 4096) (hcl : decide (v % 2 ^ ((n - f) * 6 % 8) = 0) = true) :
    Calls Try.prog 31 #[.pointer (some ⟨a, 0, none⟩), .int .u8 61] w fun e w' => ∃ u, e = .returned (.tuple #[u, .bool true]) ∧ Own .u8 5 w' u ((oct (v * 2 ^ 12)).take 1 |>.map (fun (n : Nat) => (n : Int))) ∧ DC w' a 0 0 0 true false ∧ Kept (fun i => i = a) w w' ∧ (u.ownBlock = none ∨ ∃ g, u.ownBlock = some g ∧ w.heap.size ≤ g) := by
  have HC := Lib.hid (clean_any a v n f false b w h (by omega) (by omega))
  rw [hcl] at HC
  have HV := Lib.hid hv
  subst hn hf
  have haw : a < w.heap.size := lt_of_blk h
  obtain ⟨⟨c0, -⟩, ⟨c1, -⟩, ⟨c2, -⟩, ⟨c3, -⟩, ⟨c4, -⟩⟩ := blk5 h
  have H := Lib.hid h
  clear h hcl
  have l1 : IntKind.i64.wrap 2 = 2 := by decide
  have l3 : IntKind.i64.wrap 4 = 4 := by decide
  go_enter Try.func31, Try.ntmps31
  go_wp2_with fail
  refine (index_61 _ _ (by kernel_rfl)).mono ?_
  rintro e w' ⟨rfl, rfl⟩
  go_wp2_with fail
  refine HC.out.mono ?_
  rintro e w1 ⟨rfl, hk⟩
  have h1 := H.out.kept hk id
  clear c0 c1 c2 c3 c4
  obtain ⟨⟨c0, -⟩, ⟨c1, f1⟩, ⟨c2, f2⟩, ⟨c3, -⟩, ⟨c4, -⟩⟩ := blk5 h1
  have h2 : DC (w1.setCell ⟨a, 2, none⟩ (.int .i64 2)) a v 3 2 false b := blk_set h1 2 (.int .i64 2)
  have h3 : DC ((w1.setCell ⟨a, 2, none⟩ (.int .i64 2)).setCell ⟨a, 1, none⟩ (.int .i64 4)) a v 4 2 false b := blk_set h2 1 (.int .i64 4)
  obtain ⟨-, ⟨d1, e1⟩, -⟩ := blk5 h2
  obtain ⟨-, ⟨k1, -⟩, -⟩ := blk5 h3
  have HK := Lib.hid ((((hk.mono fun _ _ h => h.elim : Kept (fun i => i = a) w' w1)).setCell (p := ⟨a, 2, none⟩) (.inl rfl) (.int .i64 2)).setCell (p := ⟨a, 1, none⟩) (.inl rfl) (.int .i64 4))
  have H3 := Lib.hid h3
  clear h1 h2 h3 hk hv
  go_wp2_with fail
  refine (bytes_walk a v 4 2 12 1 _ false b _ H3.out (by omega) rfl (by have := HV.out; omega)).mono ?_
  rintro e w2 ⟨u, rfl, hu, hk2, hub⟩
  have h4 := H3.out.kept hk2 id
  have HK2 := Lib.hid (HK.out.then (hk2.mono fun _ _ h => h.elim))
  have hsz := HK.out.size
  have haU : u.ownBlock ≠ some a := by
    rcases hub with h | ⟨g, h, hg⟩
    · rw [h]; simp
    · rw [h]; intro e; have := Option.some.inj e; omega
  have HB : u.ownBlock = none ∨ ∃ g, u.ownBlock = some g ∧ w'.heap.size ≤ g := by
    rcases hub with h | ⟨g, h, hg⟩
    · exact .inl h
    · exact .inr ⟨g, h, by omega⟩
  have HBB := Lib.hid HB
  have HU := Lib.hid (And.intro hu haU)
  clear hu haU hub HB c0 c1 c2 c3 c4 d1 e1 k1 f1 f2 hk2
  obtain ⟨⟨c0, f0⟩, ⟨c1, f1⟩, ⟨c2, f2⟩, ⟨c3, f3⟩, ⟨c4, f4⟩⟩ := blk5 h4
  have H4 := Lib.hid h4
  clear h4
  go_wp2
  obtain ⟨_, _, _, _, _, rfl, rfl, rfl, rfl, rfl, -, -, -, -, h5, hk5⟩ := H4.out.all 0 0 0 true false
  exact bodyPost_ret (v := .tuple #[u, .bool true]) (by simp [results, Try.results31, go_sem]) rfl ⟨_, rfl, HU.out.1.kept hk5 (fun b hb (hS : b = a) => HU.out.2 (by rw [hb, hS])), h5, HK2.out.then hk5, HBB.out⟩

set_option maxRecDepth 100000 in
set_option maxHeartbeats 4000000 in
theorem putB_more (a v n f c : Nat) (b : Bool) (w : World) (h : DC w a v n f false b) (hc : c < 256) (hv : val c < 64) (hn : n < 3) (hf : f = 0) (hv2 : v < 16777216) :
    Calls Try.prog 31 #[.pointer (some ⟨a, 0, none⟩), .int .u8 c] w fun e w' => e = .returned (.tuple #[.slice none 0 0, .bool true]) ∧ DC w' a (v * 64 + val c) (n + 1) 0 false b ∧ Kept (fun i => i = a) w w' := by
  subst hf
  have h61 := ne_of_val hv
  have g1 : ((c : Int) == 61) = false := by simp; omega
  obtain ⟨x, hx⟩ : ∃ x, val c = x := ⟨_, rfl⟩
  have HI := Lib.hid (index_some c hc hv w)
  rw [hx] at HI hv ⊢
  obtain ⟨⟨c0, f0⟩, ⟨c1, f1⟩, ⟨c2, f2⟩, ⟨c3, f3⟩, ⟨c4, f4⟩⟩ := blk5 h
  obtain ⟨V, hV⟩ : ∃ V, v * 64 + x = V := ⟨_, rfl⟩
  have b1 : IntKind.u32.wrap ((v : Int) * 64) = ((v * 64 : Nat) : Int) := by rw [IntKind.wrap_u32]; omega
  have b2 : IntKind.u32.wrap (x : Int) = (x : Int) := by rw [IntKind.wrap_u32]; omega
  have b3 : bits BinOp.or .u32 ((v * 64 : Nat) : Int) (x : Int) = (V : Int) := by
    rw [u32_or_nat _ _ (by omega) (by omega), nat_join 6 _ _ (by omega) (by omega), hV]
  have b4 : bits BinOp.or .u32 ((v : Int) * 64) (x : Int) = (V : Int) := by rw [← b3]; congr 1
  rw [hV]
  have l1 : IntKind.i64.wrap ((n : Int) + 1) = ((n + 1 : Nat) : Int) := by rw [IntWalk.i64_in _ (by omega)]; omega
  have g3 : decide ((n : Int) + 1 < 4) = true := decide_eq_true (by omega)
  have g4 : decide (n + 1 < 4) = true := decide_eq_true (by omega)
  have h2 : DC (w.setCell ⟨a, 0, none⟩ (.int .u32 V)) a V n 0 false b := blk_set h 0 (.int .u32 V)
  have h3 : DC ((w.setCell ⟨a, 0, none⟩ (.int .u32 V)).setCell ⟨a, 1, none⟩ (.int .i64 ((n + 1 : Nat) : Int))) a V (n + 1) 0 false b := blk_set h2 1 (.int .i64 ((n + 1 : Nat) : Int))
  obtain ⟨-, ⟨d1, e1⟩, -⟩ := blk5 h2
  obtain ⟨-, ⟨k1, -⟩, -⟩ := blk5 h3
  have HK := Lib.hid (((Kept.refl (fun i => i = a) w).setCell (p := ⟨a, 0, none⟩) (.inl rfl) (.int .u32 V)).setCell (p := ⟨a, 1, none⟩) (.inl rfl) (.int .i64 ((n + 1 : Nat) : Int)))
  have H3 := Lib.hid h3
  clear h h2 h3 hx hV b3
  go_enter Try.func31, Try.ntmps31
  go_wp2_with fail
  refine (HI.out _ (by kernel_rfl)).mono ?_
  rintro e w' ⟨rfl, rfl⟩
  go_wp2
  exact bodyPost_ret (v := .tuple #[.slice none 0 0, .bool true]) (by simp [results, Try.results31, go_sem]) rfl ⟨rfl, H3.out, HK.out⟩

set_option maxRecDepth 100000 in
set_option maxHeartbeats 4000000 in
theorem putB_whole (a v n f c : Nat) (b : Bool) (w : World) (h : DC w a v n f false b) (hc : c < 256) (hv : val c < 64) (hn : n = 3) (hf : f = 0) (hv2 : v < 262144) :
    Calls Try.prog 31 #[.pointer (some ⟨a, 0, none⟩), .int .u8 c] w fun e w' => ∃ u, e = .returned (.tuple #[u, .bool true]) ∧ Own .u8 5 w' u ((oct (v * 64 + val c)).map (fun (n : Nat) => (n : Int))) ∧ DC w' a 0 0 0 false false ∧ Kept (fun i => i = a) w w' ∧ (u.ownBlock = none ∨ ∃ g, u.ownBlock = some g ∧ w.heap.size ≤ g) := by
  subst hn hf
  have haw : a < w.heap.size := lt_of_blk h
  have h61 := ne_of_val hv
  have g1 : ((c : Int) == 61) = false := by simp; omega
  obtain ⟨x, hx⟩ : ∃ x, val c = x := ⟨_, rfl⟩
  have HI := Lib.hid (index_some c hc hv w)
  rw [hx] at HI hv ⊢
  obtain ⟨⟨c0, f0⟩, ⟨c1, f1⟩, ⟨c2, f2⟩, ⟨c3, f3⟩, ⟨c4, f4⟩⟩ := blk5 h
  obtain ⟨V, hV⟩ : ∃ V, v * 64 + x = V := ⟨_, rfl⟩
  have HV := Lib.hid (show V < 16777216 by omega)
  have b1 : IntKind.u32.wrap ((v : Int) * 64) = ((v * 64 : Nat) : Int) := by rw [IntKind.wrap_u32]; omega
  have b2 : IntKind.u32.wrap (x : Int) = (x : Int) := by rw [IntKind.wrap_u32]; omega
  have b3 : bits BinOp.or .u32 ((v * 64 : Nat) : Int) (x : Int) = (V : Int) := by
    rw [u32_or_nat _ _ (by omega) (by omega), nat_join 6 _ _ (by omega) (by omega), hV]
  have b4 : bits BinOp.or .u32 ((v : Int) * 64) (x : Int) = (V : Int) := by rw [← b3]; congr 1
  rw [hV]
  have l3 : IntKind.i64.wrap 4 = 4 := by decide
  have h2 : DC (w.setCell ⟨a, 0, none⟩ (.int .u32 V)) a V 3 0 false b := blk_set h 0 (.int .u32 V)
  have h3 : DC ((w.setCell ⟨a, 0, none⟩ (.int .u32 V)).setCell ⟨a, 1, none⟩ (.int .i64 4)) a V 4 0 false b := blk_set h2 1 (.int .i64 4)
  obtain ⟨-, ⟨d1, e1⟩, -⟩ := blk5 h2
  obtain ⟨-, ⟨k1, -⟩, -⟩ := blk5 h3
  have HK := Lib.hid (((Kept.refl (fun i => i = a) w).setCell (p := ⟨a, 0, none⟩) (.inl rfl) (.int .u32 V)).setCell (p := ⟨a, 1, none⟩) (.inl rfl) (.int .i64 4))
  have H3 := Lib.hid h3
  clear h h2 h3 hx hV b3 hv2
  go_enter Try.func31, Try.ntmps31
  go_wp2_with fail
  refine (HI.out _ (by kernel_rfl)).mono ?_
  rintro e w' ⟨rfl, rfl⟩
  go_wp2_with fail
  refine (bytes_walk a V 4 0 0 3 V false b _ H3.out (by omega) (by omega) HV.out).mono ?_
  rintro e w2 ⟨u, rfl, hu, hk2, hub⟩
  have h4 := H3.out.kept hk2 id
  have HK2 := Lib.hid (HK.out.then (hk2.mono fun _ _ h => h.elim))
  have hsz := HK.out.size
  have haU : u.ownBlock ≠ some a := by
    rcases hub with h | ⟨g, h, hg⟩
    · rw [h]; simp
    · rw [h]; intro e; have := Option.some.inj e; omega
  have HB : u.ownBlock = none ∨ ∃ g, u.ownBlock = some g ∧ w'.heap.size ≤ g := by
    rcases hub with h | ⟨g, h, hg⟩
    · exact .inl h
    · exact .inr ⟨g, h, by omega⟩
  have HBB := Lib.hid HB
  have HU := Lib.hid (And.intro hu haU)
  clear hu haU hub HB c0 c1 c2 c3 c4 d1 e1 k1 f0 f1 f2 f3 f4 hk2
  obtain ⟨⟨c0, f0⟩, ⟨c1, f1⟩, ⟨c2, f2⟩, ⟨c3, f3⟩, ⟨c4, f4⟩⟩ := blk5 h4
  have H4 := Lib.hid h4
  clear h4
  go_wp2
  obtain ⟨_, _, _, _, _, rfl, rfl, rfl, rfl, rfl, -, -, -, -, h5, hk5⟩ := H4.out.all 0 0 0 false false
  exact bodyPost_ret (v := .tuple #[u, .bool true]) (by simp [results, Try.results31, go_sem]) rfl ⟨_, rfl, HU.out.1.kept hk5 (fun b hb (hS : b = a) => HU.out.2 (by rw [hb, hS])), h5, HK2.out.then hk5, HBB.out⟩

end Go.Proofs.Ytgmbjebighhgkaa
