/- The document's End, Held, Decode. -/
import Derived.Test.YtgmbjebighhgkaaRW
import Derived.Test.YtgmbjebighhgkaaCat
namespace Go.Proofs.Ytgmbjebighhgkaa
open Go.RowKit
set_option linter.unusedVariables false
set_option linter.unusedSimpArgs false
theorem rwrite_any (a : Nat) (s : St) (o : Option Nat) (a0 : Option Addr) (len cap : Nat) (bs : List Nat) (w : World) (h : RD w a s o) (hsa : Sane s) (hsm : Small s) (hs : SlAt .u8 w a0 len (ints bs)) (hby : ∀ c ∈ bs, c < 256) (hl : len ≤ 65536) (hna : ∀ b off, 0 < len → a0 = some ⟨b, off, none⟩ → b ≠ a ∧ o ≠ some b) :
    Calls Try.prog 14 #[.pointer (some ⟨a, 0, none⟩), .slice a0 len cap] w (RPost a s o bs w) := by
  by_cases hb : s.bad = true
  · exact rwrite_bad a s o a0 len cap bs w h hb hsa
  · exact rwrite_ok a s o a0 len cap bs w h (by simpa using hb) hsm hs hby hl hna
theorem run_small {s t : St} {cs x : List Nat} (hs : Small s) (hc : ∀ c ∈ cs, c < 256) (h : run s cs = some (t, x)) : Small t := by
  induction cs generalizing s t x with
  | nil => cases h; exact hs
  | cons c cs ih =>
    simp only [run] at h
    cases hp : put s c with
    | none => rw [hp] at h; cases h
    | some p =>
      obtain ⟨t1, x1⟩ := p
      rw [hp] at h
      simp only at h
      cases h1 : run t1 cs with
      | none => rw [h1] at h; cases h
      | some q =>
        obtain ⟨u, y⟩ := q
        rw [h1] at h
        cases h
        exact ih (put_small hs (hc c (by simp)) hp) (fun d hd => hc d (by simp [hd])) h1
theorem write_small {s : St} {b : List Nat} (hs : Small s) (hb : ∀ c ∈ b, c < 256) : Small (write s b).1 := by
  unfold write
  split
  · exact small_broken
  · cases h : run s b with
    | none => exact small_broken
    | some p => obtain ⟨t, x⟩ := p; exact run_small hs hb h
theorem fin_small (s : St) : Small (fin s).1 := by
  unfold fin
  split
  · exact small_broken
  · exact small_fresh
set_option maxRecDepth 100000 in
set_option maxHeartbeats 4000000 in
theorem rheld_any (a : Nat) (s : St) (o : Option Nat) (w : World) (h : RD w a s o) : Calls Try.prog 16 #[.pointer (some ⟨a, 0, none⟩)] w fun e w' => e = .returned (.int .i64 (s.wait.length : Nat)) ∧ w' = w := by
  obtain ⟨v, h1, h2, -⟩ := h
  obtain ⟨sa, cp, rfl, -⟩ := h2.shape
  rw [ints_length] at h1
  obtain ⟨⟨c0, -⟩, -⟩ := blkR h1
  obtain ⟨n, hn⟩ : ∃ n, s.wait.length = n := ⟨_, rfl⟩
  rw [hn] at c0 ⊢
  clear h1 h2 hn
  go_enter Try.func16, Try.ntmps16
  go_wp2
  exact bodyPost_ret (v := .int .i64 n) (by simp [results, Try.results16, go_sem]) rfl ⟨rfl, rfl⟩
/-- What End leaves. -/
def REPost (a : Nat) (s : St) (o : Option Nat) (w : World) (e : Ending) (w' : World) : Prop :=
  ∃ u, e = .returned (.tuple #[u, .int .i64 (fin s).2.2]) ∧ Own .u8 5 w' u (ints (fin s).2.1) ∧ (∃ o', RD w' a (fin s).1 o' ∧ (o' = o ∨ o' = none)) ∧ Kept (fun i => i = a) w w' ∧ Fresh w u
def RNo (a : Nat) (w : World) (e : Ending) (w' : World) : Prop := e = .returned (.tuple #[.slice none 0 0, .int .i64 3]) ∧ RB w' a (.slice none 0 0) false true ∧ Kept (fun i => i = a) w w'
set_option maxRecDepth 100000 in
set_option maxHeartbeats 4000000 in
theorem rend_bad (a : Nat) (v : Value) (l : Bool) (w : World) (h : RB w a v l true) : Calls Try.prog 11 #[.pointer (some ⟨a, 0, none⟩)] w fun e w' => e = .returned (.tuple #[.slice none 0 0, .int .i64 3]) ∧ w' = w := by
  obtain ⟨-, -, ⟨c2, -⟩⟩ := blkR h
  clear h
  go_enter Try.func11, Try.ntmps11
  go_wp2
  exact bodyPost_ret (v := .tuple #[.slice none 0 0, .int .i64 3]) (by simp [results, Try.results11, go_sem]) rfl ⟨rfl, rfl⟩
set_option maxRecDepth 100000 in
set_option maxHeartbeats 4000000 in
theorem rend_zero (a : Nat) (sa : Option Addr) (cp : Nat) (l : Bool) (w : World) (h : RB w a (.slice sa 0 cp) l false) : Calls Try.prog 11 #[.pointer (some ⟨a, 0, none⟩)] w fun e w' => e = .returned (.tuple #[.slice none 0 0, .int .i64 0]) ∧ RB w' a (.slice none 0 0) false false ∧ Kept (fun i => i = a) w w' := by
  have H := Lib.hid h
  obtain ⟨⟨c0, f0⟩, ⟨c1, f1⟩, ⟨c2, f2⟩⟩ := blkR h
  clear h
  go_enter Try.func11, Try.ntmps11
  go_wp2
  obtain ⟨r1, r2⟩ := RB.all H.out (.slice none 0 0) false false
  exact bodyPost_ret (v := .tuple #[.slice none 0 0, .int .i64 0]) (by simp [results, Try.results11, go_sem]) rfl ⟨rfl, r1, r2⟩
set_option maxRecDepth 100000 in
set_option maxHeartbeats 4000000 in
theorem rend_one (a : Nat) (sa : Option Addr) (cp : Nat) (l : Bool) (w : World) (h : RB w a (.slice sa 1 cp) l false) : Calls Try.prog 11 #[.pointer (some ⟨a, 0, none⟩)] w (RNo a w) := by
  have H := Lib.hid h
  obtain ⟨⟨c0, f0⟩, ⟨c1, f1⟩, ⟨c2, f2⟩⟩ := blkR h
  clear h
  go_enter Try.func11, Try.ntmps11
  go_wp2
  obtain ⟨r1, r2⟩ := RB.all H.out (.slice none 0 0) false true
  exact bodyPost_ret (v := .tuple #[.slice none 0 0, .int .i64 3]) (by simp [results, Try.results11, go_sem]) rfl ⟨rfl, r1, r2⟩
set_option maxRecDepth 100000 in
set_option maxHeartbeats 4000000 in
theorem rend_fill (a : Nat) (sa : Option Addr) (cp : Nat) (wt : List Nat) (l : Bool) (w : World) (h : RB w a (.slice sa 3 cp) l false) (hs : SlAt .u8 w sa 3 (ints wt)) (h2 : (sgn wt).length = 2) : Calls Try.prog 11 #[.pointer (some ⟨a, 0, none⟩)] w (RNo a w) := by
  have HS := Lib.hid (signs_raw a sa 3 cp wt _ _ w h hs (by omega))
  rw [h2] at HS
  have H := Lib.hid h
  obtain ⟨⟨c0, f0⟩, ⟨c1, f1⟩, ⟨c2, f2⟩⟩ := blkR h
  clear h hs h2
  go_enter Try.func11, Try.ntmps11
  go_wp2_with fail
  refine HS.out.mono ?_
  rintro e w' ⟨rfl, rfl⟩
  go_wp2
  obtain ⟨r1, r2⟩ := RB.all H.out (.slice none 0 0) false true
  exact bodyPost_ret (v := .tuple #[.slice none 0 0, .int .i64 3]) (by simp [results, Try.results11, go_sem]) rfl ⟨rfl, r1, r2⟩
set_option maxRecDepth 100000 in
set_option maxHeartbeats 4000000 in
theorem rend_dirty (a n : Nat) (sa : Option Addr) (cp : Nat) (wt : List Nat) (l : Bool) (w : World) (hn : n = 2 ∨ n = 3) (h : RB w a (.slice sa n cp) l false) (hc : n ≤ cp) (hs : SlAt .u8 w sa n (ints wt)) (h2 : sgn wt = wt) (hx : Signs wt) (hcl : clean wt = false) : Calls Try.prog 11 #[.pointer (some ⟨a, 0, none⟩)] w (RNo a w) := by
  have hl : wt.length = n := by rw [← hs.1, ints_length]
  have HS := Lib.hid (signs_raw a sa n cp wt _ _ w h hs (by omega))
  rw [h2, hl] at HS
  have hT := three_any wt hx sa n cp w hc hs
  unfold ThreePost at hT
  rw [hcl] at hT
  have HT := Lib.hid hT
  have H := Lib.hid h
  obtain ⟨⟨c0, f0⟩, ⟨c1, f1⟩, ⟨c2, f2⟩⟩ := blkR h
  clear h hs h2 hx hcl hT hl
  rcases hn with rfl | rfl
  all_goals
    go_enter Try.func11, Try.ntmps11
    go_wp2_with fail
    refine HS.out.mono ?_
    rintro e w' ⟨rfl, rfl⟩
    go_wp2_with fail
    refine HT.out.mono ?_
    rintro e w1 ⟨u, rfl, ho, hk, -⟩
    have HK := Lib.hid hk
    have H1 := Lib.hid (hk.blk H.out id : RB w1 a _ l false)
    clear c0 f0 c1 f1 c2 f2 ho hk
    obtain ⟨⟨c0, f0⟩, ⟨c1, f1⟩, ⟨c2, f2⟩⟩ := blkR H1.out
    go_wp2
    obtain ⟨r1, r2⟩ := RB.all H1.out (.slice none 0 0) false true
    exact bodyPost_ret (v := .tuple #[.slice none 0 0, .int .i64 3]) (by simp [results, Try.results11, go_sem]) rfl ⟨rfl, r1, (HK.out.mono fun _ _ h => h.elim).then r2⟩
set_option maxRecDepth 100000 in
set_option maxHeartbeats 4000000 in
theorem rend_ok (a n : Nat) (sa : Option Addr) (cp : Nat) (wt : List Nat) (l : Bool) (w : World) (hn : n = 2 ∨ n = 3) (h : RB w a (.slice sa n cp) l false) (hc : n ≤ cp) (hs : SlAt .u8 w sa n (ints wt)) (h2 : sgn wt = wt) (hx : Signs wt) (hcl : clean wt = true) :
    Calls Try.prog 11 #[.pointer (some ⟨a, 0, none⟩)] w fun e w' => ∃ u, e = .returned (.tuple #[u, .int .i64 0]) ∧ Own .u8 5 w' u (ints (out wt)) ∧ RB w' a (.slice none 0 0) false false ∧ Kept (fun i => i = a) w w' ∧ Fresh w u := by
  have hl : wt.length = n := by rw [← hs.1, ints_length]
  have HS := Lib.hid (signs_raw a sa n cp wt _ _ w h hs (by omega))
  rw [h2, hl] at HS
  have hT := three_any wt hx sa n cp w hc hs
  unfold ThreePost at hT
  rw [hcl, if_pos rfl] at hT
  have HT := Lib.hid hT
  have H := Lib.hid h
  have haw : a < w.heap.size := lt_of_blk h
  obtain ⟨⟨c0, f0⟩, ⟨c1, f1⟩, ⟨c2, f2⟩⟩ := blkR h
  clear h hs h2 hx hcl hT hl
  rcases hn with rfl | rfl
  all_goals
    go_enter Try.func11, Try.ntmps11
    go_wp2_with fail
    refine HS.out.mono ?_
    rintro e w' ⟨rfl, rfl⟩
    go_wp2_with fail
    refine HT.out.mono ?_
    rintro e w1 ⟨u, rfl, ho, hk, hf⟩
    have HK := Lib.hid hk
    have H1 := Lib.hid (hk.blk H.out id : RB w1 a _ l false)
    have HO := Lib.hid (And.intro ho hf)
    clear c0 f0 c1 f1 c2 f2 ho hk hf
    obtain ⟨⟨c0, f0⟩, ⟨c1, f1⟩, ⟨c2, f2⟩⟩ := blkR H1.out
    go_wp2
    obtain ⟨r1, r2⟩ := RB.all H1.out (.slice none 0 0) false false
    refine bodyPost_ret (v := .tuple #[u, .int .i64 0]) (by simp [results, Try.results11, go_sem]) rfl ⟨u, rfl, HO.out.1.kept r2 (fun b hb (hS : b = a) => ?_), r1, (HK.out.mono fun _ _ h => h.elim).then r2, HO.out.2⟩
    subst hS
    rcases HO.out.2 with h | ⟨g, h, hg⟩
    · rw [h] at hb; cases hb
    · rw [h] at hb; have := Option.some.inj hb; omega
theorem rend_any (a : Nat) (s : St) (o : Option Nat) (w : World) (h : RD w a s o) (hsa : Sane s) (hsm : Small s) : Calls Try.prog 11 #[.pointer (some ⟨a, 0, none⟩)] w (REPost a s o w) := by
  have hrd := h
  obtain ⟨v, h1, h2, h3, h4, hf⟩ := h
  unfold REPost
  cases hb : s.bad with
  | true =>
    obtain rfl := hsa hb
    refine (rend_bad a v false w h1).mono ?_
    rintro e w' ⟨rfl, rfl⟩
    exact ⟨_, rfl, Own.nil _ _ _, ⟨o, hrd, .inl rfl⟩, Kept.refl _ _, .inl rfl⟩
  | false =>
    obtain ⟨sa, cp, rfl, hs, hc, -⟩ := h2.shape
    rw [hb] at h1
    rw [ints_length] at h1 hs hc
    have no : fin s = (broken, [], 3) → Calls Try.prog 11 #[.pointer (some ⟨a, 0, none⟩)] w (RNo a w) → Calls Try.prog 11 #[.pointer (some ⟨a, 0, none⟩)] w fun e w' => ∃ u, e = .returned (.tuple #[u, .int .i64 (fin s).2.2]) ∧ Own .u8 5 w' u (ints (fin s).2.1) ∧ (∃ o', RD w' a (fin s).1 o' ∧ (o' = o ∨ o' = none)) ∧ Kept (fun i => i = a) w w' ∧ Fresh w u := by
      intro e hc
      rw [e]
      refine hc.mono ?_
      rintro e w' ⟨rfl, r1, r2⟩
      exact ⟨_, rfl, Own.nil _ _ _, ⟨none, rd_nil r1, .inr rfl⟩, r2, .inl rfl⟩
    have ok : fin s = (fresh, out s.wait, 0) → (Calls Try.prog 11 #[.pointer (some ⟨a, 0, none⟩)] w fun e w' => ∃ u, e = .returned (.tuple #[u, .int .i64 0]) ∧ Own .u8 5 w' u (ints (out s.wait)) ∧ RB w' a (.slice none 0 0) false false ∧ Kept (fun i => i = a) w w' ∧ Fresh w u) → Calls Try.prog 11 #[.pointer (some ⟨a, 0, none⟩)] w fun e w' => ∃ u, e = .returned (.tuple #[u, .int .i64 (fin s).2.2]) ∧ Own .u8 5 w' u (ints (fin s).2.1) ∧ (∃ o', RD w' a (fin s).1 o' ∧ (o' = o ∨ o' = none)) ∧ Kept (fun i => i = a) w w' ∧ Fresh w u := by
      intro e hc
      rw [e]
      refine hc.mono ?_
      rintro e w' ⟨u, rfl, r0, r1, r2, r3⟩
      exact ⟨u, rfl, r0, ⟨none, rd_nil r1, .inr rfl⟩, r2, r3⟩
    have hfe : fin s = if s.wait.length = 1 ∨ (sgn s.wait).length < s.wait.length ∨ clean (sgn s.wait) = false then (broken, [], 3) else (fresh, out s.wait, 0) := by
      unfold fin
      rw [hb]
      simp
    have hsm2 := hsm
    unfold Small at hsm2
    rcases hf with e | ⟨p, e, ha, ha'⟩ | ⟨p, q, e, ha, hb2, ha', hb'⟩ | ⟨p, q, r, e, ha, hb2, hd, ha', hb', hd'⟩ | ⟨p, q, e, ha, hb2, ha', hb', -⟩
    · rw [e] at h1 hfe
      refine ok (by rw [hfe, e, if_neg (by simp [sgn_nil, clean, num_nil])]) ?_
      refine (rend_zero a sa cp s.last w h1).mono ?_
      rintro e2 w' ⟨rfl, r1, r2⟩
      exact ⟨_, rfl, by rw [e]; exact Own.nil _ _ _, r1, r2, .inl rfl⟩
    · rw [e] at h1 hfe
      exact no (by rw [hfe, if_pos (by simp)]) (rend_one a sa cp s.last w h1)
    · have e3 : sgn [p, q] = [p, q] := by rw [sgn_cons ha', sgn_cons hb', sgn_nil]
      have hx : Signs [p, q] := ⟨.inl rfl, by simp [ha, hb2, hsm2 p (by rw [e]; simp), hsm2 q (by rw [e]; simp)]⟩
      rw [e] at h1 hfe hs hc
      rw [e3] at hfe
      cases hcl : clean [p, q] with
      | true => exact ok (by rw [hfe, e, if_neg (by simp [hcl])]) (by rw [e]; exact rend_ok a 2 sa cp [p, q] s.last w (.inl rfl) h1 hc hs e3 hx hcl)
      | false => exact no (by rw [hfe, if_pos (by simp [hcl])]) (rend_dirty a 2 sa cp [p, q] s.last w (.inl rfl) h1 hc hs e3 hx hcl)
    · have e3 : sgn [p, q, r] = [p, q, r] := by rw [sgn_cons ha', sgn_cons hb', sgn_cons hd', sgn_nil]
      have hx : Signs [p, q, r] := ⟨.inr (.inl rfl), by simp [ha, hb2, hd, hsm2 p (by rw [e]; simp), hsm2 q (by rw [e]; simp), hsm2 r (by rw [e]; simp)]⟩
      rw [e] at h1 hfe hs hc
      rw [e3] at hfe
      cases hcl : clean [p, q, r] with
      | true => exact ok (by rw [hfe, e, if_neg (by simp [hcl])]) (by rw [e]; exact rend_ok a 3 sa cp [p, q, r] s.last w (.inr rfl) h1 hc hs e3 hx hcl)
      | false => exact no (by rw [hfe, if_pos (by simp [hcl])]) (rend_dirty a 3 sa cp [p, q, r] s.last w (.inr rfl) h1 hc hs e3 hx hcl)
    · have e3 : sgn [p, q, 61] = [p, q] := by rw [sgn_cons ha', sgn_cons hb', sgn_fill]
      rw [e] at h1 hfe hs
      exact no (by rw [hfe, if_pos (by simp [e3])]) (rend_fill a sa cp [p, q, 61] s.last w h1 hs (by rw [e3]; rfl))
end Go.Proofs.Ytgmbjebighhgkaa
