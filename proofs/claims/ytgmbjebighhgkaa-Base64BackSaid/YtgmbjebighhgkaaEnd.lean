/- What waits, as a state; Put, End. -/
import Derived.Test.YtgmbjebighhgkaaPut
namespace Go.Proofs.Ytgmbjebighhgkaa
open Go.RowKit
set_option linter.unusedVariables false
set_option linter.unusedSimpArgs false
def ints (x : List Nat) : List Int := x.map (fun (n : Nat) => (n : Int))
/-- A decoder in state s lies at block a. -/
def DAt (w : World) (a : Nat) (s : St) : Prop := DC w a (num (sgn s.wait)) s.wait.length (s.wait.length - (sgn s.wait).length) s.last s.bad ∧ Fit s
theorem DAt.kept {S : Nat → Prop} {w w' : World} {a : Nat} {s : St} (h : DAt w a s) (hk : Kept S w w') (hs : ¬ S a) : DAt w' a s := ⟨h.1.kept hk hs, h.2⟩
/-- A slice that is nil or lies in a new block. -/
def Fresh (w : World) (u : Value) : Prop := u.ownBlock = none ∨ ∃ g, u.ownBlock = some g ∧ w.heap.size ≤ g
theorem num1 (a : Nat) : num [a] = val a := by simp [num]
theorem num2 (a b : Nat) : num [a, b] = val a * 64 + val b := by simp [num]
theorem num3 (a b c : Nat) : num [a, b, c] = (val a * 64 + val b) * 64 + val c := by simp [num]
theorem num4 (a b c d : Nat) : num [a, b, c, d] = ((val a * 64 + val b) * 64 + val c) * 64 + val d := by simp [num]
theorem num_nil : num [] = 0 := rfl
theorem out_three (p q r : Nat) : ints (out [p, q, r]) = List.map (fun (n : Nat) => (n : Int)) (List.take 2 (oct (num [p, q, r] * 2 ^ 6))) := by
  simp [ints, out]
theorem out_two (p q : Nat) : ints (out [p, q]) = List.map (fun (n : Nat) => (n : Int)) (List.take 1 (oct (num [p, q] * 2 ^ 12))) := by
  simp [ints, out]
theorem clean_eq (s : List Nat) : clean s = decide (num s % 2 ^ (s.length * 6 % 8) = 0) := rfl

theorem put_none_any (a c : Nat) (s : St) (w : World) (h : DAt w a s) (hc : c < 256) (hp : put s c = none) :
    Calls Try.prog 31 #[.pointer (some ⟨a, 0, none⟩), .int .u8 c] w fun e w' => e = .returned (.tuple #[.slice none 0 0, .bool false]) ∧ Kept (fun _ => False) w w' := by
  obtain ⟨hd, hf⟩ := h
  by_cases hl : s.last = true
  · exact putB_over a _ _ _ c _ _ w hd hc hl
  have hl' : s.last = false := by simpa using hl
  have hv64 := val_le c
  by_cases h61 : c = 61
  · subst h61
    unfold put at hp
    rw [if_neg hl, if_pos rfl] at hp
    by_cases hn : s.wait.length < 2
    · exact putB_few a _ _ _ _ _ w hd hl' hn
    · have hcl : clean (sgn s.wait) = false := by
        split at hp
        · rename_i h; exact h.resolve_left hn
        · cases hp
      rw [hl'] at hd
      refine putB_dirty a _ _ _ _ w hd ?_ ?_ ?_
      · rcases hf with e | ⟨x, e, ha, ha'⟩ | ⟨x, y, e, ha, hb, ha', hb'⟩ | ⟨x, y, z, e, ha, hb, hd, ha', hb', hd'⟩ | ⟨x, y, e, ha, hb, ha', hb', hcl⟩ <;> rw [e] at hn ⊢ <;> simp [sgn_cons, sgn_fill, sgn_nil, *] at hn ⊢
      · rcases hf with e | ⟨x, e, ha, ha'⟩ | ⟨x, y, e, ha, hb, ha', hb'⟩ | ⟨x, y, z, e, ha, hb, hd, ha', hb', hd'⟩ | ⟨x, y, e, ha, hb, ha', hb', hcl⟩ <;> rw [e] <;> simp [sgn_cons, sgn_fill, sgn_nil, num_nil, num1, num2, num3, *] <;> omega
      · rw [clean_eq] at hcl
        rw [← hcl]
        rcases hf with e | ⟨x, e, ha, ha'⟩ | ⟨x, y, e, ha, hb, ha', hb'⟩ | ⟨x, y, z, e, ha, hb, hd, ha', hb', hd'⟩ | ⟨x, y, e, ha, hb, ha', hb', hcl⟩ <;> rw [e] <;> simp [sgn_cons, sgn_fill, sgn_nil, *]
  · unfold put at hp
    rw [if_neg hl, if_neg h61] at hp
    by_cases hv : val c = 64
    · exact putB_none a _ _ _ c _ _ w hd hc hl' hv h61
    · have hlt : (sgn s.wait).length < s.wait.length := by
        split at hp
        · rename_i h; exact h.resolve_left hv
        · cases hp
      exact putB_late a _ _ _ c _ _ w hd hc hl' (by omega) (by omega)

theorem put_some_any (a c : Nat) (s t : St) (x : List Nat) (w : World) (h : DAt w a s) (hc : c < 256) (hb : s.bad = false) (hp : put s c = some (t, x)) :
    Calls Try.prog 31 #[.pointer (some ⟨a, 0, none⟩), .int .u8 c] w fun e w' => ∃ u, e = .returned (.tuple #[u, .bool true]) ∧ Own .u8 5 w' u (ints x) ∧ DAt w' a t ∧ Kept (fun i => i = a) w w' ∧ Fresh w u := by
  have hft := put_fit h.2 hp
  obtain ⟨hd, hf⟩ := h
  have hv64 := val_le c
  obtain ⟨wt, l, b⟩ := s
  cases hb
  have hl : l = false := by
    cases l with
    | false => rfl
    | true => simp [put] at hp
  subst hl
  unfold put at hp
  simp only [Bool.false_eq_true, if_false] at hp
  by_cases h61 : c = 61
  · subst h61
    rw [if_pos rfl] at hp
    split at hp
    · cases hp
    rename_i hnc
    have hcl : clean (sgn wt) = true := by cases h : clean (sgn wt) with
      | true => rfl
      | false => exact absurd (.inr h) hnc
    have hn2 : ¬ wt.length < 2 := fun h => hnc (.inl h)
    have he := Option.some.inj hp
    rcases hf with e | ⟨p, e, ha, ha'⟩ | ⟨p, q, e, ha, hb, ha', hb'⟩ | ⟨p, q, r, e, ha, hb, hd, ha', hb', hd'⟩ | ⟨p, q, e, ha, hb, ha', hb', -⟩
    all_goals
      simp only at e
      subst e
    · simp at hn2
    · simp at hn2
    · simp [next] at he
      obtain ⟨rfl, rfl⟩ := he
      simp only [sgn_cons ha', sgn_cons hb', sgn_nil] at hd hcl
      refine (putB_pad a _ _ _ _ w hd (by simp) (by rw [num2]; omega) (by rw [clean_eq] at hcl; simpa using hcl)).mono ?_
      rintro e w' ⟨rfl, h1, h2⟩
      refine ⟨_, rfl, Own.nil _ _ _, ⟨?_, hft⟩, h2, .inl rfl⟩
      simpa [sgn_cons ha', sgn_cons hb', sgn_fill] using h1
    · have hs : sgn [p, q, r, 61] = [p, q, r] := by rw [sgn_cons ha', sgn_cons hb', sgn_cons hd', sgn_fill]
      simp [next, hs] at he
      obtain ⟨rfl, rfl⟩ := he
      simp only [sgn_cons ha', sgn_cons hb', sgn_cons hd', sgn_nil] at hd hcl
      refine (putB_last1 a _ _ _ _ w hd (by simp) (by simp) (by rw [num3]; omega) (by rw [clean_eq] at hcl; simpa using hcl)).mono ?_
      rintro e w' ⟨u, rfl, h1, h2, h3, h4⟩
      exact ⟨u, rfl, out_three p q r ▸ h1, ⟨h2, hft⟩, h3, h4⟩
    · have hs : sgn [p, q, 61, 61] = [p, q] := by rw [sgn_cons ha', sgn_cons hb', sgn_fill]
      have hs3 : sgn [p, q, 61] = [p, q] := by rw [sgn_cons ha', sgn_cons hb', sgn_fill]
      simp [next, hs] at he
      obtain ⟨rfl, rfl⟩ := he
      simp only [hs3] at hd hcl
      refine (putB_last2 a _ _ _ _ w hd (by simp) (by simp) (by rw [num2]; omega) (by rw [clean_eq] at hcl; simpa using hcl)).mono ?_
      rintro e w' ⟨u, rfl, h1, h2, h3, h4⟩
      exact ⟨u, rfl, out_two p q ▸ h1, ⟨h2, hft⟩, h3, h4⟩
  · rw [if_neg h61] at hp
    split at hp
    · cases hp
    rename_i hnc
    have hv : val c < 64 := by
      have : ¬ val c = 64 := fun h => hnc (.inl h)
      omega
    have hnf : ¬ (sgn wt).length < wt.length := fun h => hnc (.inr h)
    have he := Option.some.inj hp
    rcases hf with e | ⟨p, e, ha, ha'⟩ | ⟨p, q, e, ha, hb, ha', hb'⟩ | ⟨p, q, r, e, ha, hb, hd, ha', hb', hd'⟩ | ⟨p, q, e, ha, hb, ha', hb', -⟩
    all_goals
      simp only at e
      subst e
    · simp [next] at he
      obtain ⟨rfl, rfl⟩ := he
      refine (putB_more a _ _ _ c _ w hd hc hv (by simp) (by simp [sgn_nil]) (by simp [sgn_nil, num_nil])).mono ?_
      rintro e w' ⟨rfl, h1, h2⟩
      refine ⟨_, rfl, Own.nil _ _ _, ⟨?_, hft⟩, h2, .inl rfl⟩
      simpa [sgn_cons h61, sgn_nil, num_nil, num1] using h1
    · simp [next] at he
      obtain ⟨rfl, rfl⟩ := he
      simp only [sgn_cons ha', sgn_nil] at hd
      refine (putB_more a _ _ _ c _ w hd hc hv (by simp) (by simp) (by rw [num1]; omega)).mono ?_
      rintro e w' ⟨rfl, h1, h2⟩
      refine ⟨_, rfl, Own.nil _ _ _, ⟨?_, hft⟩, h2, .inl rfl⟩
      simpa [sgn_cons h61, sgn_cons ha', sgn_nil, num1, num2] using h1
    · simp [next] at he
      obtain ⟨rfl, rfl⟩ := he
      simp only [sgn_cons ha', sgn_cons hb', sgn_nil] at hd
      refine (putB_more a _ _ _ c _ w hd hc hv (by simp) (by simp) (by rw [num2]; omega)).mono ?_
      rintro e w' ⟨rfl, h1, h2⟩
      refine ⟨_, rfl, Own.nil _ _ _, ⟨?_, hft⟩, h2, .inl rfl⟩
      simpa [sgn_cons h61, sgn_cons ha', sgn_cons hb', sgn_nil, num2, num3] using h1
    · have hs : sgn [p, q, r, c] = [p, q, r, c] := by rw [sgn_cons ha', sgn_cons hb', sgn_cons hd', sgn_cons h61, sgn_nil]
      simp [next, hs] at he
      obtain ⟨rfl, rfl⟩ := he
      simp only [sgn_cons ha', sgn_cons hb', sgn_cons hd', sgn_nil] at hd
      refine (putB_whole a _ _ _ c _ w hd hc hv (by simp) (by simp) (by rw [num3]; omega)).mono ?_
      rintro e w' ⟨u, rfl, h1, h2, h3, h4⟩
      refine ⟨u, rfl, ?_, ⟨h2, hft⟩, h3, h4⟩
      have ho : out [p, q, r, c] = oct (num [p, q, r] * 64 + val c) := by
        rw [num3]
        simp [out, num4, oct]
      rw [ho]; exact h1
    · rw [sgn_cons ha', sgn_cons hb', sgn_fill] at hnf
      simp at hnf

theorem broken_dc {w : World} {a : Nat} (h : DC w a 0 0 0 false true) : DAt w a broken := ⟨h, fit_broken⟩
theorem fresh_dc {w : World} {a : Nat} (h : DC w a 0 0 0 false false) : DAt w a fresh := ⟨h, fit_fresh⟩
/-- One sign, of any decoder. -/
def put1 (s : St) (c : Nat) : St × List Nat × Nat :=
  if s.bad then (broken, [], 3) else match put s c with
  | none => (broken, [], 3)
  | some (t, x) => (t, x, 0)
set_option maxRecDepth 100000 in
set_option maxHeartbeats 4000000 in
theorem put1_bad (a c : Nat) (s : St) (w : World) (h : DAt w a s) (hb : s.bad = true) :
    Calls Try.prog 25 #[.pointer (some ⟨a, 0, none⟩), .int .u8 c] w fun e w' => e = .returned (.tuple #[.slice none 0 0, .int .i64 3]) ∧ DAt w' a broken ∧ Kept (fun i => i = a) w w' := by
  obtain ⟨hd, -⟩ := h
  rw [hb] at hd
  obtain ⟨⟨c0, f0⟩, ⟨c1, f1⟩, ⟨c2, f2⟩, ⟨c3, f3⟩, ⟨c4, f4⟩⟩ := blk5 hd
  have H := Lib.hid hd
  clear hd hb
  go_enter Try.func25, Try.ntmps25
  go_wp2
  obtain ⟨_, _, _, _, _, rfl, rfl, rfl, rfl, rfl, -, -, -, -, h5, hk⟩ := H.out.all 0 0 0 false true
  exact bodyPost_ret (v := .tuple #[.slice none 0 0, .int .i64 3]) (by simp [results, Try.results25, go_sem]) rfl ⟨rfl, broken_dc h5, hk⟩
set_option maxRecDepth 100000 in
set_option maxHeartbeats 4000000 in
theorem put1_none (a c : Nat) (s : St) (w : World) (h : DAt w a s) (hc : c < 256) (hb : s.bad = false) (hp : put s c = none) :
    Calls Try.prog 25 #[.pointer (some ⟨a, 0, none⟩), .int .u8 c] w fun e w' => e = .returned (.tuple #[.slice none 0 0, .int .i64 3]) ∧ DAt w' a broken ∧ Kept (fun i => i = a) w w' := by
  have HP := Lib.hid (put_none_any a c s w h hc hp)
  obtain ⟨hd, -⟩ := h
  rw [hb] at hd
  obtain ⟨-, -, -, -, ⟨c4, -⟩⟩ := blk5 hd
  have H := Lib.hid hd
  clear hd hb hp
  go_enter Try.func25, Try.ntmps25
  go_wp2_with fail
  refine HP.out.mono ?_
  rintro e w1 ⟨rfl, hk⟩
  have h1 := H.out.kept hk id
  have HK := Lib.hid (hk.mono fun _ _ h => h.elim : Kept (fun i => i = a) w w1)
  clear c4 hk
  obtain ⟨⟨c0, f0⟩, ⟨c1, f1⟩, ⟨c2, f2⟩, ⟨c3, f3⟩, ⟨c4, f4⟩⟩ := blk5 h1
  have H1 := Lib.hid h1
  clear h1
  go_wp2
  obtain ⟨_, _, _, _, _, rfl, rfl, rfl, rfl, rfl, -, -, -, -, h5, hk⟩ := H1.out.all 0 0 0 false true
  exact bodyPost_ret (v := .tuple #[.slice none 0 0, .int .i64 3]) (by simp [results, Try.results25, go_sem]) rfl ⟨rfl, broken_dc h5, HK.out.then hk⟩
set_option maxRecDepth 100000 in
set_option maxHeartbeats 4000000 in
theorem put1_some (a c : Nat) (s t : St) (x : List Nat) (w : World) (h : DAt w a s) (hc : c < 256) (hb : s.bad = false) (hp : put s c = some (t, x)) :
    Calls Try.prog 25 #[.pointer (some ⟨a, 0, none⟩), .int .u8 c] w fun e w' => ∃ u, e = .returned (.tuple #[u, .int .i64 0]) ∧ Own .u8 5 w' u (ints x) ∧ DAt w' a t ∧ Kept (fun i => i = a) w w' ∧ Fresh w u := by
  have HP := Lib.hid (put_some_any a c s t x w h hc hb hp)
  obtain ⟨hd, -⟩ := h
  rw [hb] at hd
  obtain ⟨-, -, -, -, ⟨c4, -⟩⟩ := blk5 hd
  clear hd hb hp
  go_enter Try.func25, Try.ntmps25
  go_wp2_with fail
  refine HP.out.mono ?_
  rintro e w1 ⟨u, rfl, hr⟩
  have HR := Lib.hid hr
  clear hr c4
  go_wp2
  exact bodyPost_ret (v := .tuple #[u, .int .i64 0]) (by simp [results, Try.results25, go_sem]) rfl ⟨u, rfl, HR.out⟩
theorem put1_any (a c : Nat) (s : St) (w : World) (h : DAt w a s) (hc : c < 256) :
    Calls Try.prog 25 #[.pointer (some ⟨a, 0, none⟩), .int .u8 c] w fun e w' => ∃ u, e = .returned (.tuple #[u, .int .i64 (put1 s c).2.2]) ∧ Own .u8 5 w' u (ints (put1 s c).2.1) ∧ DAt w' a (put1 s c).1 ∧ Kept (fun i => i = a) w w' ∧ Fresh w u := by
  unfold put1
  by_cases hb : s.bad = true
  · rw [if_pos hb]
    exact (put1_bad a c s w h hb).mono fun e w' ⟨he, h1, h2⟩ => ⟨_, he, Own.nil _ _ _, h1, h2, .inl rfl⟩
  · rw [if_neg hb]
    have hb' : s.bad = false := by simpa using hb
    cases hp : put s c with
    | none => exact (put1_none a c s w h hc hb' hp).mono fun e w' ⟨he, h1, h2⟩ => ⟨_, he, Own.nil _ _ _, h1, h2, .inl rfl⟩
    | some p => obtain ⟨t, x⟩ := p; exact put1_some a c s t x w h hc hb' hp

set_option maxRecDepth 100000 in
set_option maxHeartbeats 4000000 in
theorem endB_bad (a v n f : Nat) (o b : Bool) (w : World) (h : DC w a v n f o b) (hb : b = true) :
    Calls Try.prog 10 #[.pointer (some ⟨a, 0, none⟩)] w fun e w' => e = .returned (.tuple #[.slice none 0 0, .int .i64 3]) ∧ DC w' a 0 0 0 false true ∧ Kept (fun i => i = a) w w' := by
  subst hb
  obtain ⟨⟨c0, f0⟩, ⟨c1, f1⟩, ⟨c2, f2⟩, ⟨c3, f3⟩, ⟨c4, f4⟩⟩ := blk5 h
  have H := Lib.hid h
  clear h
  go_enter Try.func10, Try.ntmps10
  go_wp2
  obtain ⟨_, _, _, _, _, rfl, rfl, rfl, rfl, rfl, -, -, -, -, h5, hk⟩ := H.out.all 0 0 0 false true
  exact bodyPost_ret (v := .tuple #[.slice none 0 0, .int .i64 3]) (by simp [results, Try.results10, go_sem]) rfl ⟨rfl, h5, hk⟩

set_option maxRecDepth 100000 in
set_option maxHeartbeats 4000000 in
theorem endB_one (a v n f : Nat) (o b : Bool) (w : World) (h : DC w a v n f o b) (hb : b = false) (hn : n = 1) :
    Calls Try.prog 10 #[.pointer (some ⟨a, 0, none⟩)] w fun e w' => e = .returned (.tuple #[.slice none 0 0, .int .i64 3]) ∧ DC w' a 0 0 0 false true ∧ Kept (fun i => i = a) w w' := by
  subst hb hn
  obtain ⟨⟨c0, f0⟩, ⟨c1, f1⟩, ⟨c2, f2⟩, ⟨c3, f3⟩, ⟨c4, f4⟩⟩ := blk5 h
  have H := Lib.hid h
  clear h
  go_enter Try.func10, Try.ntmps10
  go_wp2
  obtain ⟨_, _, _, _, _, rfl, rfl, rfl, rfl, rfl, -, -, -, -, h5, hk⟩ := H.out.all 0 0 0 false true
  exact bodyPost_ret (v := .tuple #[.slice none 0 0, .int .i64 3]) (by simp [results, Try.results10, go_sem]) rfl ⟨rfl, h5, hk⟩

set_option maxRecDepth 100000 in
set_option maxHeartbeats 4000000 in
theorem endB_fill (a v n f : Nat) (o b : Bool) (w : World) (h : DC w a v n f o b) (hb : b = false) (hn : n = 3) (hf : f = 1) :
    Calls Try.prog 10 #[.pointer (some ⟨a, 0, none⟩)] w fun e w' => e = .returned (.tuple #[.slice none 0 0, .int .i64 3]) ∧ DC w' a 0 0 0 false true ∧ Kept (fun i => i = a) w w' := by
  subst hb hn hf
  obtain ⟨⟨c0, f0⟩, ⟨c1, f1⟩, ⟨c2, f2⟩, ⟨c3, f3⟩, ⟨c4, f4⟩⟩ := blk5 h
  have H := Lib.hid h
  clear h
  go_enter Try.func10, Try.ntmps10
  go_wp2
  obtain ⟨_, _, _, _, _, rfl, rfl, rfl, rfl, rfl, -, -, -, -, h5, hk⟩ := H.out.all 0 0 0 false true
  exact bodyPost_ret (v := .tuple #[.slice none 0 0, .int .i64 3]) (by simp [results, Try.results10, go_sem]) rfl ⟨rfl, h5, hk⟩

set_option maxRecDepth 100000 in
set_option maxHeartbeats 4000000 in
theorem endB_dirty (a v n f : Nat) (o : Bool) (w : World) (h : DC w a v n f o false) (hn : n = 2 ∧ f = 0 ∨ n = 3 ∧ f = 0) (hv : v < 16777216) (hcl : decide (v % 2 ^ ((n - f) * 6 % 8) = 0) = false) :
    Calls Try.prog 10 #[.pointer (some ⟨a, 0, none⟩)] w fun e w' => e = .returned (.tuple #[.slice none 0 0, .int .i64 3]) ∧ DC w' a 0 0 0 false true ∧ Kept (fun i => i = a) w w' := by
  have HC := Lib.hid (clean_any a v n f o false w h (by omega) hv)
  rw [hcl] at HC
  obtain ⟨⟨c0, f0⟩, ⟨c1, f1⟩, ⟨c2, f2⟩, ⟨c3, f3⟩, ⟨c4, f4⟩⟩ := blk5 h
  have H := Lib.hid h
  clear h hcl hv
  rcases hn with ⟨rfl, rfl⟩ | ⟨rfl, rfl⟩
  all_goals
    go_enter Try.func10, Try.ntmps10
    go_wp2_with fail
    refine HC.out.mono ?_
    rintro e w1 ⟨rfl, hk⟩
    have h1 := H.out.kept hk id
    have HK := Lib.hid (hk.mono fun _ _ h => h.elim : Kept (fun i => i = a) w w1)
    clear c0 c1 c2 c3 c4 f0 f1 f2 f3 f4 hk
    obtain ⟨⟨c0, f0⟩, ⟨c1, f1⟩, ⟨c2, f2⟩, ⟨c3, f3⟩, ⟨c4, f4⟩⟩ := blk5 h1
    have H1 := Lib.hid h1
    clear h1
    go_wp2
    obtain ⟨_, _, _, _, _, rfl, rfl, rfl, rfl, rfl, -, -, -, -, h5, hk⟩ := H1.out.all 0 0 0 false true
    exact bodyPost_ret (v := .tuple #[.slice none 0 0, .int .i64 3]) (by simp [results, Try.results10, go_sem]) rfl ⟨rfl, h5, HK.out.then hk⟩

set_option maxRecDepth 100000 in
set_option maxHeartbeats 4000000 in
theorem endB_ok (a v n m k : Nat) (o : Bool) (w : World) (h : DC w a v n 0 o false) (hn : n = 0 ∧ m = 24 ∧ k = 0 ∧ v = 0 ∨ n = 2 ∧ m = 12 ∧ k = 1 ∨ n = 3 ∧ m = 6 ∧ k = 2) (hv : v * 2 ^ m < 16777216) (hv2 : v < 16777216) (hcl : decide (v % 2 ^ ((n - 0) * 6 % 8) = 0) = true) :
    Calls Try.prog 10 #[.pointer (some ⟨a, 0, none⟩)] w fun e w' => ∃ u, e = .returned (.tuple #[u, .int .i64 0]) ∧ Own .u8 5 w' u (ints ((oct (v * 2 ^ m)).take k)) ∧ DC w' a 0 0 0 false false ∧ Kept (fun i => i = a) w w' ∧ Fresh w u := by
  have HC := Lib.hid (clean_any a v n 0 o false w h (by omega) hv2)
  rw [hcl] at HC
  obtain ⟨x, hx⟩ : ∃ x, v * 2 ^ m = x := ⟨_, rfl⟩
  have HB : ∀ W, DC W a v n 0 o false → _ := fun W hW => bytes_walk a v n 0 m k x o false W hW (by omega) hx (by omega)
  have HBB := Lib.hid HB
  rw [hx]
  have haw : a < w.heap.size := lt_of_blk h
  obtain ⟨⟨c0, f0⟩, ⟨c1, f1⟩, ⟨c2, f2⟩, ⟨c3, f3⟩, ⟨c4, f4⟩⟩ := blk5 h
  have H := Lib.hid h
  have HN := Lib.hid hn
  have hn' : n = 0 ∨ n = 2 ∨ n = 3 := by omega
  clear h hcl hv hv2 hx hn HB
  have fin : ∀ (w1 w2 : World) (u : Value), Kept (fun _ => False) w w1 → Own .u8 5 w2 u (ints ((oct x).take k)) → Kept (fun _ => False) w1 w2 → (u.ownBlock = none ∨ ∃ g, u.ownBlock = some g ∧ w1.heap.size ≤ g) → ∀ w3, DC w3 a 0 0 0 false false → Kept (fun i => i = a) w2 w3 → Own .u8 5 w3 u (ints ((oct x).take k)) ∧ DC w3 a 0 0 0 false false ∧ Kept (fun i => i = a) w w3 ∧ Fresh w u := by
    intro w1 w2 u k1 hu k2 hf w3 h3 k3
    have hs := k1.size
    have hua : u.ownBlock ≠ some a := by
      rcases hf with h | ⟨g, h, hg⟩
      · rw [h]; simp
      · rw [h]; intro e; have := Option.some.inj e; omega
    refine ⟨hu.kept k3 (fun b hb (hS : b = a) => hua (by rw [hb, hS])), h3, (((k1.then k2).mono fun _ _ h => h.elim).then k3), ?_⟩
    rcases hf with h | ⟨g, h, hg⟩
    · exact .inl h
    · exact .inr ⟨g, h, by omega⟩
  have HF := Lib.hid fin
  clear fin
  rcases hn' with rfl | rfl | rfl
  all_goals
    go_enter Try.func10, Try.ntmps10
    go_wp2_with fail
    refine HC.out.mono ?_
    rintro e w1 ⟨rfl, hk⟩
    have h1 := H.out.kept hk id
    have HK := Lib.hid hk
    clear c0 c1 c2 c3 c4 f0 f1 f2 f3 f4 hk
    obtain ⟨⟨c0, f0⟩, ⟨c1, f1⟩, ⟨c2, f2⟩, ⟨c3, f3⟩, ⟨c4, f4⟩⟩ := blk5 h1
    have H1 := Lib.hid h1
    clear h1
    go_wp2_with fail
    refine (HBB.out _ H1.out).mono ?_
    rintro e w2 ⟨u, rfl, hu, hk2, hub⟩
    have h2 := H1.out.kept hk2 id
    have HU := Lib.hid (And.intro hu (And.intro hk2 hub))
    have H2 := Lib.hid h2
    clear c0 c1 c2 c3 c4 f0 f1 f2 f3 f4 hu hk2 hub h2
    go_wp2_with fail
    refine (reset_any a _ _ _ _ _ _ H2.out).mono ?_
    rintro e w3 ⟨rfl, h3, hk3⟩
    have H3 := Lib.hid (And.intro h3 hk3)
    clear h3 hk3
    go_wp2
    exact bodyPost_ret (v := .tuple #[u, .int .i64 0]) (by simp [results, Try.results10, go_sem]) rfl ⟨u, rfl, HF.out w1 w2 u HK.out HU.out.1 HU.out.2.1 HU.out.2.2 w3 H3.out.1 H3.out.2⟩

theorem end_any (a : Nat) (s : St) (w : World) (h : DAt w a s) :
    Calls Try.prog 10 #[.pointer (some ⟨a, 0, none⟩)] w fun e w' => ∃ u, e = .returned (.tuple #[u, .int .i64 (fin s).2.2]) ∧ Own .u8 5 w' u (ints (fin s).2.1) ∧ DAt w' a (fin s).1 ∧ Kept (fun i => i = a) w w' ∧ Fresh w u := by
  obtain ⟨hd, hf⟩ := h
  obtain ⟨wt, l, b⟩ := s
  cases b with
  | true =>
    have e : fin ⟨wt, l, true⟩ = (broken, [], 3) := by simp [fin]
    rw [e]
    exact (endB_bad a _ _ _ _ _ w hd rfl).mono fun e w' ⟨he, h1, h2⟩ => ⟨_, he, Own.nil _ _ _, broken_dc h1, h2, .inl rfl⟩
  | false =>
    by_cases hbad : wt.length = 1 ∨ (sgn wt).length < wt.length ∨ clean (sgn wt) = false
    · have e : fin ⟨wt, l, false⟩ = (broken, [], 3) := by unfold fin; rw [if_pos (.inr hbad)]
      rw [e]
      have key : Calls Try.prog 10 #[.pointer (some ⟨a, 0, none⟩)] w fun e w' => e = .returned (.tuple #[.slice none 0 0, .int .i64 3]) ∧ DC w' a 0 0 0 false true ∧ Kept (fun i => i = a) w w' := by
        rcases hf with e | ⟨p, e, ha, ha'⟩ | ⟨p, q, e, ha, hb, ha', hb'⟩ | ⟨p, q, r, e, ha, hb, hd, ha', hb', hd'⟩ | ⟨p, q, e, ha, hb, ha', hb', -⟩
        all_goals
          simp only at e
          subst e
        · simp [sgn_nil, clean, num_nil] at hbad
        · exact endB_one a _ _ _ _ _ w hd rfl rfl
        · simp only [sgn_cons ha', sgn_cons hb', sgn_nil] at hd hbad
          simp at hbad
          exact endB_dirty a _ _ _ _ w hd (by simp) (by rw [num2]; omega) (by rw [clean_eq] at hbad; simpa using hbad)
        · simp only [sgn_cons ha', sgn_cons hb', sgn_cons hd', sgn_nil] at hd hbad
          simp at hbad
          exact endB_dirty a _ _ _ _ w hd (by simp) (by rw [num3]; omega) (by rw [clean_eq] at hbad; simpa using hbad)
        · simp only [sgn_cons ha', sgn_cons hb', sgn_fill] at hd
          exact endB_fill a _ _ _ _ _ w hd rfl rfl rfl
      exact key.mono fun e w' ⟨he, h1, h2⟩ => ⟨_, he, Own.nil _ _ _, broken_dc h1, h2, .inl rfl⟩
    · have e : fin ⟨wt, l, false⟩ = (fresh, out wt, 0) := by unfold fin; rw [if_neg (by simpa using hbad)]
      rw [e]
      have h1 : ¬ wt.length = 1 := fun h => hbad (.inl h)
      have h2 : ¬ (sgn wt).length < wt.length := fun h => hbad (.inr (.inl h))
      have h3 : clean (sgn wt) = true := by cases h : clean (sgn wt) with
        | true => rfl
        | false => exact absurd (.inr (.inr h)) hbad
      have key : ∃ m k, ints (out wt) = ints ((oct (num (sgn wt) * 2 ^ m)).take k) ∧ Calls Try.prog 10 #[.pointer (some ⟨a, 0, none⟩)] w fun e w' => ∃ u, e = .returned (.tuple #[u, .int .i64 0]) ∧ Own .u8 5 w' u (ints ((oct (num (sgn wt) * 2 ^ m)).take k)) ∧ DC w' a 0 0 0 false false ∧ Kept (fun i => i = a) w w' ∧ Fresh w u := by
        rcases hf with e | ⟨p, e, ha, ha'⟩ | ⟨p, q, e, ha, hb, ha', hb'⟩ | ⟨p, q, r, e, ha, hb, hd2, ha', hb', hd'⟩ | ⟨p, q, e, ha, hb, ha', hb', -⟩
        all_goals
          simp only at e
          subst e
        · exact ⟨24, 0, by simp [out], endB_ok a _ _ 24 0 _ w hd (.inl ⟨rfl, rfl, rfl, rfl⟩) (by simp [sgn_nil, num_nil]) (by simp [sgn_nil, num_nil]) (by simp [sgn_nil, num_nil])⟩
        · simp at h1
        · simp only [sgn_cons ha', sgn_cons hb', sgn_nil] at hd h3 ⊢
          exact ⟨12, 1, out_two p q, endB_ok a _ _ 12 1 _ w hd (by simp) (by rw [num2]; omega) (by rw [num2]; omega) (by rw [clean_eq] at h3; simpa using h3)⟩
        · simp only [sgn_cons ha', sgn_cons hb', sgn_cons hd', sgn_nil] at hd h3 ⊢
          exact ⟨6, 2, out_three p q r, endB_ok a _ _ 6 2 _ w hd (by simp) (by rw [num3]; omega) (by rw [num3]; omega) (by rw [clean_eq] at h3; simpa using h3)⟩
        · rw [sgn_cons ha', sgn_cons hb', sgn_fill] at h2
          simp at h2
      obtain ⟨m, k, e1, hc⟩ := key
      simp only [e1]
      exact hc.mono fun e w' ⟨u, he, h1, h2, h3, h4⟩ => ⟨u, he, h1, fresh_dc h2, h3, h4⟩
end Go.Proofs.Ytgmbjebighhgkaa
