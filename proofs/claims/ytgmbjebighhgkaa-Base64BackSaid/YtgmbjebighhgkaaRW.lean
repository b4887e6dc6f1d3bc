/- The document's Write. -/
import Derived.Test.YtgmbjebighhgkaaFits
import Derived.Test.YtgmbjebighhgkaaApp
import Derived.Test.YtgmbjebighhgkaaAppStep
import Derived.Deep.LoopGhost
namespace Go.Proofs.Ytgmbjebighhgkaa
open Go.RowKit
set_option linter.unusedVariables false
set_option linter.unusedSimpArgs false
def Small (s : St) : Prop := ∀ c ∈ s.wait, c < 256
theorem small_fresh : Small fresh := fun _ h => by cases h
theorem small_broken : Small broken := fun _ h => by cases h
theorem put_small {s t : St} {c : Nat} {x : List Nat} (h : Small s) (hc : c < 256) (hp : put s c = some (t, x)) : Small t := by
  have key : some (next (s.wait ++ [c])) = some (t, x) → Small t := fun h2 => by
    have e : t = (next (s.wait ++ [c])).1 := by rw [Option.some.inj h2]
    subst e
    unfold next
    split
    · intro d hd
      rcases List.mem_append.1 hd with h3 | h3
      · exact h d h3
      · rw [List.mem_singleton.1 h3]; exact hc
    · intro d hd; cases hd
  unfold put at hp
  split at hp
  · cases hp
  · split at hp
    · split at hp
      · cases hp
      · exact key hp
    · split at hp
      · cases hp
      · exact key hp
/-- What is changed: the block a, what waited; o': what waits now. -/
def Ext (w : World) (a : Nat) (o o' : Option Nat) (w' : World) : Prop := Kept (fun i => i = a ∨ o = some i) w w' ∧ (o' = o ∨ o' = none ∨ ∃ b, o' = some b ∧ w.heap.size ≤ b)
theorem Ext.refl (w : World) (a : Nat) (o : Option Nat) : Ext w a o o w := ⟨Kept.refl _ _, .inl rfl⟩
theorem Ext.trans {w x y : World} {a : Nat} {o o1 o2 : Option Nat} (h : Ext w a o o1 x) (k : Ext x a o1 o2 y) : Ext w a o o2 y := by
  obtain ⟨h1, h2⟩ := h
  obtain ⟨k1, k2⟩ := k
  have hs := h1.size
  refine ⟨h1.trans (k1.mono fun i hi hS => ?_), ?_⟩
  · rcases hS with rfl | hS
    · exact .inl (.inl rfl)
    · rcases h2 with h | h | ⟨b, h, hb⟩
      · exact .inl (.inr (by rw [← h]; exact hS))
      · rw [h] at hS; cases hS
      · rw [h] at hS; have := Option.some.inj hS; exact .inr (by omega)
  · rcases k2 with k | k | ⟨b, k, hb⟩
    · rw [k]; exact h2
    · exact .inr (.inl k)
    · exact .inr (.inr ⟨b, k, by omega⟩)
theorem Ext.same {w w' : World} {a : Nat} {o : Option Nat} (h : Kept (fun _ => False) w w') : Ext w a o o w' := ⟨h.mono fun _ _ h => h.elim, .inl rfl⟩
theorem Ext.own {w w' : World} {a : Nat} {o : Option Nat} (h : Kept (fun i => i = a) w w') (o' : Option Nat) (ho : o' = o ∨ o' = none) : Ext w a o o' w' := ⟨h.mono fun _ _ h => .inl h, ho.elim .inl (fun h => .inr (.inl h))⟩
def Apart (u : Value) (o : Option Nat) : Prop := ∀ b, u.ownBlock = some b → o ≠ some b
/-- The three cells set. -/
theorem RB.all {w : World} {a : Nat} {v : Value} {l b : Bool} (h : RB w a v l b) (v' : Value) (l' b' : Bool) :
    RB (((w.setCell ⟨a, 0, none⟩ v').setCell ⟨a, 1, none⟩ (.bool l')).setCell ⟨a, 2, none⟩ (.bool b')) a v' l' b' ∧ Kept (fun i => i = a) w (((w.setCell ⟨a, 0, none⟩ v').setCell ⟨a, 1, none⟩ (.bool l')).setCell ⟨a, 2, none⟩ (.bool b')) := by
  refine ⟨blk_set (blk_set (blk_set h 0 v') 1 (.bool l')) 2 (.bool b'), ?_⟩
  exact (((Kept.refl (fun i => i = a) w).setCell (p := ⟨a, 0, none⟩) (.inl rfl) _).setCell (p := ⟨a, 1, none⟩) (.inl rfl) _).setCell (p := ⟨a, 2, none⟩) (.inl rfl) _
theorem rd_nil {w : World} {a : Nat} {l b : Bool} (h : RB w a (.slice none 0 0) l b) : RD w a ⟨[], l, b⟩ none := ⟨_, h, Own.nil _ _ _, rfl, by simp, .inl rfl⟩
/-- What Write leaves. -/
def RPost (a : Nat) (s : St) (o : Option Nat) (bs : List Nat) (w : World) (e : Ending) (w' : World) : Prop :=
  ∃ u o', e = .returned (.tuple #[u, .int .i64 (write s bs).2.2]) ∧ Own .u8 5 w' u (ints (write s bs).2.1) ∧ RD w' a (write s bs).1 o' ∧ Ext w a o o' w' ∧ Fresh w u
set_option maxRecDepth 100000 in
set_option maxHeartbeats 4000000 in
theorem rwrite_bad (a : Nat) (s : St) (o : Option Nat) (a0 : Option Addr) (len cap : Nat) (bs : List Nat) (w : World) (h : RD w a s o) (hb : s.bad = true) (hsa : Sane s) :
    Calls Try.prog 14 #[.pointer (some ⟨a, 0, none⟩), .slice a0 len cap] w (RPost a s o bs w) := by
  obtain rfl := hsa hb
  have H := Lib.hid h
  obtain ⟨v, h1, -⟩ := h
  obtain ⟨-, -, c2, -⟩ := blkR h1
  have c2' : w.cell? ⟨a, 2, none⟩ = some (.bool true) := c2
  clear h1 c2
  go_enter Try.func14, Try.ntmps14
  go_wp2
  refine bodyPost_ret (v := .tuple #[.slice none 0 0, .int .i64 3]) (by simp [results, Try.results14, go_sem]) rfl ?_
  exact ⟨_, o, rfl, Own.nil _ _ _, H.out, Ext.refl _ _ _, .inl rfl⟩

theorem Own.len2 {k : IntKind} {e : TypeId} {w : World} {v : Value} {xs : List Int} (h : Own k e w v xs) (n : Nat) (hn : xs.length = n) : ∃ a cap, v = .slice a n cap := by
  obtain ⟨a, cap, hv, -⟩ := h.shape
  exact ⟨a, cap, by rw [hv, hn]⟩
theorem Own.up1 {k : IntKind} {e : TypeId} {w w' : World} {v : Value} {xs : List Int} (h : Own k e w v xs) (hk : Kept (fun _ => False) w w') : Own k e w' v xs := h.kept hk (fun _ _ => id)
theorem slAt_ints {w : World} {sa : Option Addr} {n cp : Nat} {x : List Nat} {c : Nat} (h : Own .u8 5 w (.slice sa n cp) (ints x ++ [(c : Int)])) (hn : x.length + 1 = n) : SlAt .u8 w sa n (ints (x ++ [c])) := by
  obtain ⟨a, cap, e, h1, -⟩ := h.shape
  have hl : (ints x ++ [(c : Int)]).length = n := by simp [ints_length, hn]
  rw [hl] at e h1
  cases e
  rw [ints_append]
  exact h1
theorem own_cap {w : World} {sa : Option Addr} {n cp : Nat} {xs : List Int} (h : Own .u8 5 w (.slice sa n cp) xs) : n ≤ cp := by
  obtain ⟨a, cap, e, h1, h2, -⟩ := h.shape
  cases e
  exact h2
theorem out_len (s : List Nat) : (out s).length ≤ 3 := by simp [out, oct, List.length_take]; omega
theorem put_nx {t : St} {c : Nat} {t1 : St} {y : List Nat} (h : put t c = some (t1, y)) : (t1, y) = next (t.wait ++ [c]) := by
  unfold put at h
  split at h
  · cases h
  · split at h
    · split at h
      · cases h
      · exact (Option.some.inj h).symm
    · split at h
      · cases h
      · exact (Option.some.inj h).symm
theorem put_lt {t : St} {c : Nat} {t1 : St} {y : List Nat} (h : put t c = some (t1, y)) (hl : t.wait.length + 1 < 4) : t1 = ⟨t.wait ++ [c], false, false⟩ ∧ y = [] := by
  have e := put_nx h
  have : next (t.wait ++ [c]) = (⟨t.wait ++ [c], false, false⟩, []) := by unfold next; rw [if_pos (by simpa using hl)]
  rw [this] at e
  cases e
  exact ⟨rfl, rfl⟩
theorem put_full {t : St} {c : Nat} {t1 : St} {y : List Nat} (h : put t c = some (t1, y)) (hl : t.wait.length = 3) : t1 = ⟨[], decide ((sgn (t.wait ++ [c])).length < 4), false⟩ ∧ y = out (sgn (t.wait ++ [c])) := by
  have e := put_nx h
  have : next (t.wait ++ [c]) = (⟨[], decide ((sgn (t.wait ++ [c])).length < 4), false⟩, out (sgn (t.wait ++ [c]))) := by unfold next; rw [if_neg (by simp; omega)]
  rw [this] at e
  cases e
  exact ⟨rfl, rfl⟩
theorem clean_four (x : List Nat) (h : x.length = 4) : clean x = true := by simp [clean, h, Nat.mod_one]
theorem put_signs {t : St} {c : Nat} {t1 : St} {y : List Nat} (hf : Fit t) (hs : Small t) (hc : c < 256) (h : put t c = some (t1, y)) (hl : t.wait.length = 3) : Signs (sgn (t.wait ++ [c])) ∧ clean (sgn (t.wait ++ [c])) = true := by
  have hs2 := hs
  unfold Small at hs2
  rcases hf with e | ⟨p, e, ha, ha'⟩ | ⟨p, q, e, ha, hb, ha', hb'⟩ | ⟨p, q, r, e, ha, hb, hd, ha', hb', hd'⟩ | ⟨p, q, e, ha, hb, ha', hb', hcl⟩
  · rw [e] at hl; simp at hl
  · rw [e] at hl; simp at hl
  · rw [e] at hl; simp at hl
  · rw [e] at hs2 ⊢
    have hp := hs2 p (by simp)
    have hq := hs2 q (by simp)
    have hr := hs2 r (by simp)
    by_cases h61 : c = 61
    · subst h61
      have e3 : sgn ([p, q, r] ++ [61]) = [p, q, r] := by
        show sgn [p, q, r, 61] = _
        rw [sgn_cons ha', sgn_cons hb', sgn_cons hd', sgn_fill]
      have e4 : sgn [p, q, r] = [p, q, r] := by rw [sgn_cons ha', sgn_cons hb', sgn_cons hd', sgn_nil]
      rw [e3]
      refine ⟨⟨.inr (.inl rfl), by simp [ha, hb, hd, hp, hq, hr]⟩, ?_⟩
      unfold put at h
      rw [e, e4] at h
      split at h
      · cases h
      · rw [if_pos rfl] at h
        split at h
        · cases h
        · rename_i hx
          cases hcl : clean [p, q, r] with
          | true => rfl
          | false => exact absurd (.inr hcl) hx
    · have e3 : sgn ([p, q, r] ++ [c]) = [p, q, r, c] := by
        show sgn [p, q, r, c] = _
        rw [sgn_cons ha', sgn_cons hb', sgn_cons hd', sgn_cons h61, sgn_nil]
      rw [e3]
      have hv : val c < 64 := by
        have := val_le c
        have : ¬ val c = 64 := by
          intro hv
          simp [put, h61, hv] at h
        omega
      exact ⟨⟨.inr (.inr rfl), by simp [ha, hb, hd, hp, hq, hr, hv, hc]⟩, clean_four _ rfl⟩
  · rw [e] at hs2 ⊢
    have hp := hs2 p (by simp)
    have hq := hs2 q (by simp)
    have e3 : sgn ([p, q, 61] ++ [c]) = [p, q] := by
      show sgn [p, q, 61, c] = _
      rw [sgn_cons ha', sgn_cons hb', sgn_fill]
    rw [e3]
    exact ⟨⟨.inl rfl, by simp [ha, hb, hp, hq]⟩, hcl⟩

set_option maxRecDepth 100000 in
set_option maxHeartbeats 40000000 in
theorem rwrite_ok (a : Nat) (s : St) (o : Option Nat) (a0 : Option Addr) (len cap : Nat) (bs : List Nat) (w : World) (h : RD w a s o) (hb : s.bad = false) (hsm : Small s) (hs : SlAt .u8 w a0 len (ints bs)) (hby : ∀ c ∈ bs, c < 256) (hl : len ≤ 65536) (hna : ∀ b off, 0 < len → a0 = some ⟨b, off, none⟩ → b ≠ a ∧ o ≠ some b) :
    Calls Try.prog 14 #[.pointer (some ⟨a, 0, none⟩), .slice a0 len cap] w (RPost a s o bs w) := by
  have hlen : bs.length = len := by rw [← hs.1, ints_length]
  obtain ⟨i0, hi, hz0, hz1, hz2⟩ := info_parts tinfo5
  have HI := Lib.hid (And.intro hi (And.intro hz0 (And.intro hz1 hz2)))
  have HD := Lib.hid h
  have HS := Lib.hid hs
  have HBY := Lib.hid hby
  have HNA := Lib.hid hna
  have HLN := Lib.hid hlen
  have HB := Lib.hid hb
  have HSM0 := Lib.hid hsm
  obtain ⟨v0, h1, -⟩ := h
  obtain ⟨-, -, q2, -⟩ := blkR h1
  rw [hb] at q2
  clear hi hz0 hz1 hz2 h1 hs hby hna hlen hb hsm
  go_enter Try.func14, Try.ntmps14
  go_wp2
  clear q2
  go_loopg [6, 7, 8, 9, 10] len (fun gg uv iv _ _ _ wr => ∃ (k : Nat) (t : St) (x : List Nat) (o' : Option Nat), len ≤ gg + k ∧ k ≤ len ∧ iv = .int .i64 (k : Int) ∧ run s (bs.take k) = some (t, x) ∧ RD wr a t o' ∧ Ext w a o o' wr ∧ Own .u8 5 wr uv (ints x) ∧ Fresh w uv ∧ Apart uv o' ∧ Small t)
  case atStart => exact ⟨0, s, [], o, by omega, by omega, rfl, by simp [run], HD.out, Ext.refl _ _ _, Own.nil _ _ _, .inl rfl, (fun b h => by cases h), HSM0.out⟩
  case round =>
    obtain ⟨k, t, x, o', hgg, hkl, rfl, hrun, hd, hext, ho, hf, hap, hsmt⟩ := hrel
    by_cases hkk : k < len
    · have gkk : decide (k < len) = true := decide_eq_true hkk
      obtain ⟨b, off, rfl, hc⟩ := (HS.out.kept hext.1 (fun b off h0 h hS => by
        have := HNA.out b off h0 h
        rcases hS with hS | hS
        · exact this.1 hS
        · exact this.2 hS)).2.resolve_left (by omega)
      have hck := hc k hkk
      obtain ⟨c, hcc⟩ : ∃ c, bs[k]? = some c := ⟨_, List.getElem?_eq_getElem (by rw [HLN.out]; exact hkk)⟩
      have hc256 : c < 256 := HBY.out c (List.mem_of_getElem? hcc)
      have hcv : (ints bs).getD k 0 = (c : Int) := by simp [ints, hcc]
      rw [hcv] at hck
      have hbt : t.bad = false := run_bad HB.out hrun
      have hstep := run_step hrun hcc
      have hxl := run_len hrun
      rw [List.length_take] at hxl
      have HXL := Lib.hid (show x.length ≤ 196608 by omega)
      have w1i : IntKind.i64.wrap ((k : Int) + 1) = (k : Int) + 1 := IntWalk.i64_in _ (by omega)
      have lk : (k : Int) < (len : Int) := by omega
      obtain ⟨v, hb1, hown, hvo, hoa, hfit⟩ := hd
      rw [hbt] at hb1
      have haw : a < wr.heap.size := lt_of_blk hb1
      have hua : ∀ b, u6.ownBlock = some b → ¬ b = a := by
        intro b' hb' hS
        subst hS
        rcases hf with h | ⟨g, h, hg⟩
        · rw [h] at hb'; cases hb'
        · rw [h] at hb'; have := Option.some.inj hb'; have := lt_of_blk HD.out.choose_spec.1; omega
      obtain ⟨sa, n, cp, rfl, hsl, hncp, hn⟩ : ∃ sa n cp, v = .slice sa n cp ∧ SlAt .u8 wr sa n (ints t.wait) ∧ n ≤ cp ∧ t.wait.length = n := by
        obtain ⟨sa, cp, e, h1, h2, -⟩ := hown.shape
        exact ⟨sa, _, cp, e, h1, h2, (ints_length _).symm⟩
      have hn3 := fit_len hfit
      have HTN := Lib.hid hn
      have HRB0 := Lib.hid (show RB wr a (.slice sa n cp) t.last false from hb1)
      have HOW0 := Lib.hid hown
      have HVO := Lib.hid hvo
      have HOA := Lib.hid hoa
      have HE := Lib.hid hext
      have HO := Lib.hid ho
      have HF := Lib.hid hf
      have HAP := Lib.hid hap
      have HUA := Lib.hid hua
      have HSG0 := Lib.hid (signs_raw a sa n cp t.wait _ _ wr hb1 hsl (by omega))
      have HFI := Lib.hid (fits_any a c t sa n cp wr (by rw [hbt]; exact hb1) hsl hncp hfit hsmt hc256)
      have hfew := fit_few hfit
      have hlate : t.last = true → put t c = none := fun h => by simp [put, h]
      obtain ⟨⟨c0, -⟩, ⟨c1, -⟩, ⟨c2, -⟩⟩ := blkR hb1
      obtain ⟨m0, hm0⟩ : ∃ m, (sgn t.wait).length = m := ⟨_, rfl⟩
      rw [hm0] at HSG0 hfew
      rw [hn] at hfew
      have hfull := fun (t1 : St) (y : List Nat) (hp : put t c = some (t1, y)) (h3 : t.wait.length = 3) => put_signs hfit hsmt hc256 hp h3
      have hsml := fun (t1 : St) (y : List Nat) (hp : put t c = some (t1, y)) => put_small hsmt hc256 hp
      have hftt := fun (t1 : St) (y : List Nat) (hp : put t c = some (t1, y)) => put_fit hfit hp
      clear hc hcv hb1 hown hvo hoa hext ho hf hap hua hrun hcc hm0 haw hsl hfit hsmt
      cases hp : put t c with
      | none =>
        rw [hp] at hstep HFI
        have hw : write s bs = (broken, [], 3) := by
          unfold write
          rw [HB.out, run_fell hstep]
          rfl
        have HW := Lib.hid hw
        clear hstep hw hfull hsml hftt hlate
        by_cases hB : 0 < n ∧ c = 61
        · obtain ⟨hB1, hB2⟩ := hB
          have gn : decide (0 < n) = true := decide_eq_true hB1
          have gc : ((c : Int) == 61) = true := by simp; omega
          clear hB1 hB2
          by_cases hm2 : m0 < 2
          · have gm : decide ((m0 : Int) < 2) = true := decide_eq_true (by omega)
            have HRB := HRB0
            have HK1 := Lib.hid (Kept.refl (fun _ => False) wr)
            clear c0 c1 c2
            obtain ⟨⟨c0, f0⟩, ⟨c1, f1⟩, ⟨c2, f2⟩⟩ := blkR HRB.out
            clear hfew
            go_wp2_with fail
            refine HSG0.out.mono ?_
            rintro e w1' ⟨rfl, rfl⟩
            go_wp2
            obtain ⟨r1, r2⟩ := RB.all HRB.out (.slice none 0 0) false true
            refine bodyPost_ret (v := .tuple #[.slice none 0 0, .int .i64 3]) (by simp [results, Try.results14, go_sem]) rfl ?_
            unfold RPost
            rw [HW.out]
            exact ⟨_, none, rfl, Own.nil _ _ _, rd_nil r1, HE.out.trans (Ext.own (HK1.out.mono (fun _ _ h => h.elim) |>.then r2) none (.inr rfl)), .inl rfl⟩
          · have gm : decide ((m0 : Int) < 2) = false := decide_eq_false (by omega)
            clear hfew
            go_wp2_with fail
            refine HSG0.out.mono ?_
            rintro e w1' ⟨rfl, rfl⟩
            go_wp2_with fail
            refine HFI.out.mono ?_
            rintro e w1 ⟨rfl, hk1⟩
            have HK1 := Lib.hid hk1
            have HRB := Lib.hid (hk1.blk HRB0.out id : RB w1 a (.slice sa n cp) t.last false)
            have HOW := Lib.hid (HOW0.out.kept hk1 (fun _ _ => id))
            have hck1 := hk1.cell hck id
            clear c0 c1 c2 hck hk1
            obtain ⟨⟨c0, f0⟩, ⟨c1, f1⟩, ⟨c2, f2⟩⟩ := blkR HRB.out
            clear hck1
            go_wp2
            obtain ⟨r1, r2⟩ := RB.all HRB.out (.slice none 0 0) false true
            refine bodyPost_ret (v := .tuple #[.slice none 0 0, .int .i64 3]) (by simp [results, Try.results14, go_sem]) rfl ?_
            unfold RPost
            rw [HW.out]
            exact ⟨_, none, rfl, Own.nil _ _ _, rd_nil r1, HE.out.trans (Ext.own (HK1.out.mono (fun _ _ h => h.elim) |>.then r2) none (.inr rfl)), .inl rfl⟩
        · have hA : n = 0 ∨ c ≠ 61 := by omega
          clear hB
          rcases hA with hA | hA
          · subst hA
            skip
            clear hfew
            go_wp2_with fail
            refine HFI.out.mono ?_
            rintro e w1 ⟨rfl, hk1⟩
            have HK1 := Lib.hid hk1
            have HRB := Lib.hid (hk1.blk HRB0.out id : RB w1 a (.slice sa 0 cp) t.last false)
            have HOW := Lib.hid (HOW0.out.kept hk1 (fun _ _ => id))
            have hck1 := hk1.cell hck id
            clear c0 c1 c2 hck hk1
            obtain ⟨⟨c0, f0⟩, ⟨c1, f1⟩, ⟨c2, f2⟩⟩ := blkR HRB.out
            clear hck1
            go_wp2
            obtain ⟨r1, r2⟩ := RB.all HRB.out (.slice none 0 0) false true
            refine bodyPost_ret (v := .tuple #[.slice none 0 0, .int .i64 3]) (by simp [results, Try.results14, go_sem]) rfl ?_
            unfold RPost
            rw [HW.out]
            exact ⟨_, none, rfl, Own.nil _ _ _, rd_nil r1, HE.out.trans (Ext.own (HK1.out.mono (fun _ _ h => h.elim) |>.then r2) none (.inr rfl)), .inl rfl⟩
          · have gc : ((c : Int) == 61) = false := by simp; omega
            by_cases hA2 : 0 < n
            · have gn : decide (0 < n) = true := decide_eq_true hA2
              clear hA hA2
              clear hfew
              go_wp2_with fail
              refine HFI.out.mono ?_
              rintro e w1 ⟨rfl, hk1⟩
              have HK1 := Lib.hid hk1
              have HRB := Lib.hid (hk1.blk HRB0.out id : RB w1 a (.slice sa n cp) t.last false)
              have HOW := Lib.hid (HOW0.out.kept hk1 (fun _ _ => id))
              have hck1 := hk1.cell hck id
              clear c0 c1 c2 hck hk1
              obtain ⟨⟨c0, f0⟩, ⟨c1, f1⟩, ⟨c2, f2⟩⟩ := blkR HRB.out
              clear hck1
              go_wp2
              obtain ⟨r1, r2⟩ := RB.all HRB.out (.slice none 0 0) false true
              refine bodyPost_ret (v := .tuple #[.slice none 0 0, .int .i64 3]) (by simp [results, Try.results14, go_sem]) rfl ?_
              unfold RPost
              rw [HW.out]
              exact ⟨_, none, rfl, Own.nil _ _ _, rd_nil r1, HE.out.trans (Ext.own (HK1.out.mono (fun _ _ h => h.elim) |>.then r2) none (.inr rfl)), .inl rfl⟩
            · obtain rfl : n = 0 := by omega
              clear hA hA2
              clear hfew
              go_wp2_with fail
              refine HFI.out.mono ?_
              rintro e w1 ⟨rfl, hk1⟩
              have HK1 := Lib.hid hk1
              have HRB := Lib.hid (hk1.blk HRB0.out id : RB w1 a (.slice sa 0 cp) t.last false)
              have HOW := Lib.hid (HOW0.out.kept hk1 (fun _ _ => id))
              have hck1 := hk1.cell hck id
              clear c0 c1 c2 hck hk1
              obtain ⟨⟨c0, f0⟩, ⟨c1, f1⟩, ⟨c2, f2⟩⟩ := blkR HRB.out
              clear hck1
              go_wp2
              obtain ⟨r1, r2⟩ := RB.all HRB.out (.slice none 0 0) false true
              refine bodyPost_ret (v := .tuple #[.slice none 0 0, .int .i64 3]) (by simp [results, Try.results14, go_sem]) rfl ?_
              unfold RPost
              rw [HW.out]
              exact ⟨_, none, rfl, Own.nil _ _ _, rd_nil r1, HE.out.trans (Ext.own (HK1.out.mono (fun _ _ h => h.elim) |>.then r2) none (.inr rfl)), .inl rfl⟩
      | some pt =>
        obtain ⟨t1, y⟩ := pt
        rw [hp] at hstep HFI
        have hlf : t.last = false := by
          cases h : t.last with
          | false => rfl
          | true => rw [hlate h] at hp; cases hp
        rw [hlf] at HRB0 c1
        have HST := Lib.hid hstep
        have HSM := Lib.hid (hsml t1 y hp)
        have HFT := Lib.hid (hftt t1 y hp)
        have hfew2 : c = 61 → ¬ m0 < 2 := by
          rintro rfl h
          have h2 := hfew.1 h
          unfold put at hp
          split at hp
          · cases hp
          · rw [if_pos rfl, if_pos (.inl (by rw [hn]; exact h2))] at hp; cases hp
        by_cases h3 : n = 3
        · subst h3
          have HNX := Lib.hid (put_full hp hn)
          have hss := hfull t1 y hp hn
          have HSS := Lib.hid hss.1
          have HCL := Lib.hid hss.2
          clear hp hstep hfull hsml hftt hlate hlf hss
          by_cases hB2 : c = 61
          · have gc : ((c : Int) == 61) = true := by simp; omega
            have hB1 : True := trivial
            have gm : decide ((m0 : Int) < 2) = false := decide_eq_false (by have := hfew2 hB2; omega)
            clear hfew hfew2 hB1 hB2
            go_wp2_with fail
            refine HSG0.out.mono ?_
            rintro e w1' ⟨rfl, rfl⟩
            go_wp2_with fail
            refine HFI.out.mono ?_
            rintro e w1 ⟨rfl, hk1⟩
            have HK1 := Lib.hid hk1
            have HRB := Lib.hid (hk1.blk HRB0.out id : RB w1 a (.slice sa 3 cp) false false)
            have HOW := Lib.hid (HOW0.out.kept hk1 (fun _ _ => id))
            have hck1 := hk1.cell hck id
            clear c0 c1 c2 hck hk1 gc
            obtain ⟨⟨c0, f0⟩, ⟨c1, f1⟩, ⟨c2, f2⟩⟩ := blkR HRB.out
            have hca : (w1.alloc (.cells #[.int .u8 (c : Int)] 5)).cell? ⟨b, off + k, none⟩ = some (.int .u8 (c : Int)) := ((Kept.refl (fun _ => False) w1).alloc _).cell hck1 id
            have hba : RB (w1.alloc (.cells #[.int .u8 (c : Int)] 5)) a (.slice sa 3 cp) false false := ((Kept.refl (fun _ => False) w1).alloc _).blk HRB.out id
            obtain ⟨⟨d0, d0'⟩, -, -⟩ := blkR hba
            have hs1 : SlAt .u8 ((w1.alloc (.cells #[.int .u8 (c : Int)] 5)).drew) (some ⟨w1.heap.size, 0, none⟩) 1 [(c : Int)] := slAt_blk (blk_new w1 (.cells #[.int .u8 (c : Int)] 5)) rfl rfl
            have hoa : Own .u8 5 ((w1.alloc (.cells #[.int .u8 (c : Int)] 5)).drew) (.slice sa 3 cp) (ints t.wait) := HOW.out.kept (((Kept.refl (fun _ => False) w1).alloc _).drew) (fun _ _ => id)
            have HSB := Lib.hid (And.intro hs1 hoa)
            have HB5 := Lib.hid (show ((ints t.wait).length + 1) * 1 ≤ 140737488355328 ∧ (ints t.wait).length + 1 ≤ maxLen from by have := HTN.out; rw [ints_length]; constructor; (omega); (simp only [maxLen]; omega))
            clear hs1 hoa hba
            go_wp2
            go_region_law (refine step_appInts rfl (.tmp 55) (.tmp 60) 28 rfl 5 .u8 i0 (.int .u8 0) 1 Try.underlying28 HI.out.1 HI.out.2.1 HI.out.2.2.1 HI.out.2.2.2 rfl (.slice sa 3 cp) (ints t.wait) rfl (by exact HSB.out.2) (some ⟨w1.heap.size, 0, none⟩) 1 1 [(c : Int)] rfl (fun h => by cases h) (by exact HSB.out.1) HB5.out.1 HB5.out.2 ?_; intro v5 w5 ho5 hk5 hpr5; have hq5 := app_field (i := 0) HRB.out HVO.out HOA.out (((Kept.refl (fun _ => False) w1).alloc _).drew) ho5 hk5 hpr5; have hb5 : RB w5 a (.slice sa 3 cp) false false := hk5.blk (((Kept.refl (fun _ => False) w1).alloc _).blk HRB.out id) (fun h => HOA.out (by rw [← HVO.out]; exact h)); obtain ⟨⟨y0, y0'⟩, -, -⟩ := blkR hb5; obtain ⟨a5, cp5, hv5⟩ := ho5.len2 (4) (by rw [List.length_append, ints_length, HTN.out]; rfl); subst hv5; have H5 := Lib.hid hq5; clear hq5 ho5 hk5 hpr5 hb5; clear c0 f0 c1 f1 c2 f2 d0 d0' hca hck1)
            all_goals
              obtain ⟨X, hX⟩ : ∃ X, w5.setCell ⟨a, 0, none⟩ (.slice a5 (4) cp5) = X := ⟨_, rfl⟩
              have h5 := H5.out
              rw [hX] at h5
              obtain ⟨hRX, hOX, hAX, hKX, hFX⟩ := h5
              have hRX' : RB X a (.slice a5 (4) cp5) false false := hRX
              have H6 := Lib.hid (And.intro hRX' (And.intro hOX (And.intro hAX (And.intro hKX hFX))))
              obtain ⟨⟨x0, x0'⟩, ⟨x1, x1'⟩, x2, x2'⟩ := blkR hRX'
              clear hRX hRX' hOX hAX hKX hFX H5
              have HSG := Lib.hid (signs_raw a a5 (4) cp5 (t.wait ++ [c]) _ _ X H6.out.1 ((slAt_ints H6.out.2.1 (by simp [HTN.out]))) (by omega))
              obtain ⟨m, hm⟩ : ∃ m, (sgn (t.wait ++ [c])).length = m := ⟨_, rfl⟩
              rw [hm] at HSG
              have hmn : m ≤ 4 := by rw [← hm]; have := sgn_le (t.wait ++ [c]); simp [HTN.out] at this; omega
              have hmc : 4 ≤ cp5 := own_cap H6.out.2.1
              have HTH := Lib.hid (three_any (sgn (t.wait ++ [c])) HSS.out a5 m cp5 X (by omega) (by have := (slAt_ints H6.out.2.1 (n := 4) (by simp [HTN.out])).front (m := m) hmn; rw [show (t.wait ++ [c]).take m = sgn (t.wait ++ [c]) from (by rw [← hm]; exact (sgn_prefix _).symm)] at this; exact this))
              have hcl : clean (sgn (t.wait ++ [c])) = true := HCL.out
              have lm : (m : Int) ≤ (cp5 : Int) := by omega
              obtain ⟨ad, rfl⟩ : ∃ ad, a5 = some ad := by
                rcases (slAt_ints H6.out.2.1 (n := 4) (by simp [HTN.out])).2 with h | ⟨b', off', h, -⟩
                · omega
                · exact ⟨_, h⟩
              obtain ⟨lb, hlb⟩ : ∃ lb, decide (m < 4) = lb := ⟨_, rfl⟩
              have hlb2 : decide ((m : Int) < 4) = lb := by rw [← hlb]; exact decide_eq_decide.2 (by omega)
              have HLB := Lib.hid (And.intro hm hlb)
              unfold ThreePost at HTH
              rw [hcl, if_pos rfl] at HTH
              clear hcl hm hmn hmc hlb
              go_wp2_with fail
              refine HSG.out.mono ?_
              rintro e w6 ⟨rfl, rfl⟩
              go_wp2_with fail
              refine HTH.out.mono ?_
              rintro e w7 ⟨u7, rfl, ho7, hk7, hf7⟩
              obtain ⟨ua7, ucp7, rfl, hus7, hun7, hum7, hu07, -⟩ := ho7.shape
              obtain ⟨n7, hn7⟩ : ∃ n7, (ints (out (sgn (t.wait ++ [c])))).length = n7 := ⟨_, rfl⟩
              rw [hn7] at hus7 hun7 hu07 ⊢
              have HN7 := Lib.hid (show n7 ≤ 3 by rw [← hn7, ints_length]; exact out_len _)
              have HU7 := Lib.hid (And.intro hus7 hu07)
              have hRX7 : RB w7 a (.slice (some ad) (4) cp5) false false := hk7.blk H6.out.1 id
              have HOU := Lib.hid (((HO.out.up1 HK1.out).kept H6.out.2.2.2.1 (fun b hb hS => by
                rcases hS with hS | hS
                · exact HUA.out b hb hS
                · exact HAP.out b hb hS)).kept hk7 (fun _ _ => id))
              have HK7 := Lib.hid hk7
              have HB7 := Lib.hid hRX7
              obtain ⟨⟨x0, x0'⟩, ⟨x1, x1'⟩, x2, x2'⟩ := blkR hRX7
              clear ho7 hk7 hf7 hus7 hu07 hn7 hRX7
              obtain ⟨oa, ocp, hoe, -⟩ := HO.out.shape
              subst hoe
              go_wp2_with (at_builtin; refine wpList_appInts rfl (.tmp 82) (.tmp 83) 28 rfl 5 .u8 i0 (.int .u8 0) 1 Try.underlying28 HI.out.1 HI.out.2.1 HI.out.2.2.1 HI.out.2.2.2 rfl (.slice oa (ints x).length ocp) (ints x) rfl HOU.out ua7 n7 ucp7 _ rfl HU7.out.2 HU7.out.1 (by have := HXL.out; have := HN7.out; rw [ints_length]; omega) (by have := HXL.out; have := HN7.out; rw [ints_length]; simp only [maxLen]; omega) ?_; intro v8 w8 ho8 hk8 hpr8; have hR8 : RB w8 a (.slice (some ad) (4) cp5) false false := hk8.blk HB7.out (fun h => HUA.out a h rfl); obtain ⟨⟨z0, z0'⟩, ⟨z1, z1'⟩, z2, z2'⟩ := blkR hR8; have H8 := Lib.hid (And.intro ho8 (And.intro hk8 (And.intro hpr8 hR8))); have hz0 : RB (w8.setCell ⟨a, 1, none⟩ (.bool lb)) a (.slice (some ad) (4) cp5) lb false := blk_set hR8 1 (.bool lb); obtain ⟨⟨j0, j0'⟩, -, -⟩ := blkR hz0; clear ho8 hk8 hpr8 hR8 hz0 x0 x0' x1 x1' x2 x2')
              have h6 := H6.out
              have hW8 : Kept (fun i => (i = a ∨ o' = some i) ∨ w1.heap.size ≤ i ∨ (Value.slice oa (ints x).length ocp).ownBlock = some i) w1 w8 := ((h6.2.2.2.1.mono fun _ _ h => .inl h).then ((HK7.out.mono fun _ _ h => h.elim).then (H8.out.2.1.mono fun _ _ h => .inr (.inr h))))
              go_roundg (gk - 1)
              case rel =>
                obtain ⟨rfl, rfl⟩ := HNX.out
                refine ⟨k + 1, _, _, none, by omega, by omega, by simp, HST.out, ?_, ?_, ?_, ?_, ?_, HSM.out⟩
                · rw [HLB.out.1, HLB.out.2]
                  exact rd_nil (blk_set (blk_set H8.out.2.2.2 1 (.bool lb)) 0 (.slice none 0 0))
                · refine ⟨?_, .inr (.inl rfl)⟩
                  refine Kept.setCell (p := ⟨a, 0, none⟩) (Kept.setCell (p := ⟨a, 1, none⟩) ?_ (.inl (.inl rfl)) _) (.inl (.inl rfl)) _
                  refine HE.out.1.trans ((HK1.out.mono fun _ _ h => h.elim).then (hW8.mono fun i hi hS => ?_))
                  have hsz := HE.out.1.size
                  have hsz1 := HK1.out.size
                  rcases hS with (rfl | hS) | hS | hS
                  · exact .inl (.inl rfl)
                  · rcases HE.out.2 with h | h | ⟨g, h, hg⟩
                    · exact .inl (.inr (by rw [← h]; exact hS))
                    · rw [h] at hS; cases hS
                    · rw [h] at hS; have := Option.some.inj hS; exact .inr (by omega)
                  · exact .inr (by omega)
                  · rcases HF.out with h | ⟨g, h, hg⟩
                    · rw [h] at hS; cases hS
                    · rw [h] at hS; have := Option.some.inj hS; exact .inr (by omega)
                · rw [ints_append]
                  refine (H8.out.1.kept (S := fun i => i = a) ?_ ?_)
                  · exact ((Kept.refl (fun i => i = a) w8).setCell (p := ⟨a, 1, none⟩) (.inl rfl) _).setCell (p := ⟨a, 0, none⟩) (.inl rfl) _
                  · intro b hb hS
                    rcases H8.out.2.2.1 with h | h
                    · rw [h] at hb; exact HUA.out b hb hS
                    · rw [h] at hb; have := Option.some.inj hb; have := lt_of_blk HB7.out; omega
                · rcases H8.out.2.2.1 with h | h
                  · rcases HF.out with h2 | ⟨g, h2, hg⟩
                    · exact .inl (h.trans h2)
                    · exact .inr ⟨g, h.trans h2, hg⟩
                  · exact .inr ⟨_, h, by have := HE.out.1.size; have := HK1.out.size; have := h6.2.2.2.1.size; have := HK7.out.size; omega⟩
                · intro b _ h; cases h
              case measure => omega
          · have gc : ((c : Int) == 61) = false := by simp; omega
            clear hB2
            clear hfew hfew2
            go_wp2_with fail
            refine HFI.out.mono ?_
            rintro e w1 ⟨rfl, hk1⟩
            have HK1 := Lib.hid hk1
            have HRB := Lib.hid (hk1.blk HRB0.out id : RB w1 a (.slice sa 3 cp) false false)
            have HOW := Lib.hid (HOW0.out.kept hk1 (fun _ _ => id))
            have hck1 := hk1.cell hck id
            clear c0 c1 c2 hck hk1
            obtain ⟨⟨c0, f0⟩, ⟨c1, f1⟩, ⟨c2, f2⟩⟩ := blkR HRB.out
            have hca : (w1.alloc (.cells #[.int .u8 (c : Int)] 5)).cell? ⟨b, off + k, none⟩ = some (.int .u8 (c : Int)) := ((Kept.refl (fun _ => False) w1).alloc _).cell hck1 id
            have hba : RB (w1.alloc (.cells #[.int .u8 (c : Int)] 5)) a (.slice sa 3 cp) false false := ((Kept.refl (fun _ => False) w1).alloc _).blk HRB.out id
            obtain ⟨⟨d0, d0'⟩, -, -⟩ := blkR hba
            have hs1 : SlAt .u8 ((w1.alloc (.cells #[.int .u8 (c : Int)] 5)).drew) (some ⟨w1.heap.size, 0, none⟩) 1 [(c : Int)] := slAt_blk (blk_new w1 (.cells #[.int .u8 (c : Int)] 5)) rfl rfl
            have hoa : Own .u8 5 ((w1.alloc (.cells #[.int .u8 (c : Int)] 5)).drew) (.slice sa 3 cp) (ints t.wait) := HOW.out.kept (((Kept.refl (fun _ => False) w1).alloc _).drew) (fun _ _ => id)
            have HSB := Lib.hid (And.intro hs1 hoa)
            have HB5 := Lib.hid (show ((ints t.wait).length + 1) * 1 ≤ 140737488355328 ∧ (ints t.wait).length + 1 ≤ maxLen from by have := HTN.out; rw [ints_length]; constructor; (omega); (simp only [maxLen]; omega))
            clear hs1 hoa hba
            go_wp2
            go_region_law (refine step_appInts rfl (.tmp 55) (.tmp 60) 28 rfl 5 .u8 i0 (.int .u8 0) 1 Try.underlying28 HI.out.1 HI.out.2.1 HI.out.2.2.1 HI.out.2.2.2 rfl (.slice sa 3 cp) (ints t.wait) rfl (by exact HSB.out.2) (some ⟨w1.heap.size, 0, none⟩) 1 1 [(c : Int)] rfl (fun h => by cases h) (by exact HSB.out.1) HB5.out.1 HB5.out.2 ?_; intro v5 w5 ho5 hk5 hpr5; have hq5 := app_field (i := 0) HRB.out HVO.out HOA.out (((Kept.refl (fun _ => False) w1).alloc _).drew) ho5 hk5 hpr5; have hb5 : RB w5 a (.slice sa 3 cp) false false := hk5.blk (((Kept.refl (fun _ => False) w1).alloc _).blk HRB.out id) (fun h => HOA.out (by rw [← HVO.out]; exact h)); obtain ⟨⟨y0, y0'⟩, -, -⟩ := blkR hb5; obtain ⟨a5, cp5, hv5⟩ := ho5.len2 (4) (by rw [List.length_append, ints_length, HTN.out]; rfl); subst hv5; have H5 := Lib.hid hq5; clear hq5 ho5 hk5 hpr5 hb5; clear c0 f0 c1 f1 c2 f2 d0 d0' hca hck1)
            all_goals
              obtain ⟨X, hX⟩ : ∃ X, w5.setCell ⟨a, 0, none⟩ (.slice a5 (4) cp5) = X := ⟨_, rfl⟩
              have h5 := H5.out
              rw [hX] at h5
              obtain ⟨hRX, hOX, hAX, hKX, hFX⟩ := h5
              have hRX' : RB X a (.slice a5 (4) cp5) false false := hRX
              have H6 := Lib.hid (And.intro hRX' (And.intro hOX (And.intro hAX (And.intro hKX hFX))))
              obtain ⟨⟨x0, x0'⟩, ⟨x1, x1'⟩, x2, x2'⟩ := blkR hRX'
              clear hRX hRX' hOX hAX hKX hFX H5
              have HSG := Lib.hid (signs_raw a a5 (4) cp5 (t.wait ++ [c]) _ _ X H6.out.1 ((slAt_ints H6.out.2.1 (by simp [HTN.out]))) (by omega))
              obtain ⟨m, hm⟩ : ∃ m, (sgn (t.wait ++ [c])).length = m := ⟨_, rfl⟩
              rw [hm] at HSG
              have hmn : m ≤ 4 := by rw [← hm]; have := sgn_le (t.wait ++ [c]); simp [HTN.out] at this; omega
              have hmc : 4 ≤ cp5 := own_cap H6.out.2.1
              have HTH := Lib.hid (three_any (sgn (t.wait ++ [c])) HSS.out a5 m cp5 X (by omega) (by have := (slAt_ints H6.out.2.1 (n := 4) (by simp [HTN.out])).front (m := m) hmn; rw [show (t.wait ++ [c]).take m = sgn (t.wait ++ [c]) from (by rw [← hm]; exact (sgn_prefix _).symm)] at this; exact this))
              have hcl : clean (sgn (t.wait ++ [c])) = true := HCL.out
              have lm : (m : Int) ≤ (cp5 : Int) := by omega
              obtain ⟨ad, rfl⟩ : ∃ ad, a5 = some ad := by
                rcases (slAt_ints H6.out.2.1 (n := 4) (by simp [HTN.out])).2 with h | ⟨b', off', h, -⟩
                · omega
                · exact ⟨_, h⟩
              obtain ⟨lb, hlb⟩ : ∃ lb, decide (m < 4) = lb := ⟨_, rfl⟩
              have hlb2 : decide ((m : Int) < 4) = lb := by rw [← hlb]; exact decide_eq_decide.2 (by omega)
              have HLB := Lib.hid (And.intro hm hlb)
              unfold ThreePost at HTH
              rw [hcl, if_pos rfl] at HTH
              clear hcl hm hmn hmc hlb
              go_wp2_with fail
              refine HSG.out.mono ?_
              rintro e w6 ⟨rfl, rfl⟩
              go_wp2_with fail
              refine HTH.out.mono ?_
              rintro e w7 ⟨u7, rfl, ho7, hk7, hf7⟩
              obtain ⟨ua7, ucp7, rfl, hus7, hun7, hum7, hu07, -⟩ := ho7.shape
              obtain ⟨n7, hn7⟩ : ∃ n7, (ints (out (sgn (t.wait ++ [c])))).length = n7 := ⟨_, rfl⟩
              rw [hn7] at hus7 hun7 hu07 ⊢
              have HN7 := Lib.hid (show n7 ≤ 3 by rw [← hn7, ints_length]; exact out_len _)
              have HU7 := Lib.hid (And.intro hus7 hu07)
              have hRX7 : RB w7 a (.slice (some ad) (4) cp5) false false := hk7.blk H6.out.1 id
              have HOU := Lib.hid (((HO.out.up1 HK1.out).kept H6.out.2.2.2.1 (fun b hb hS => by
                rcases hS with hS | hS
                · exact HUA.out b hb hS
                · exact HAP.out b hb hS)).kept hk7 (fun _ _ => id))
              have HK7 := Lib.hid hk7
              have HB7 := Lib.hid hRX7
              obtain ⟨⟨x0, x0'⟩, ⟨x1, x1'⟩, x2, x2'⟩ := blkR hRX7
              clear ho7 hk7 hf7 hus7 hu07 hn7 hRX7
              obtain ⟨oa, ocp, hoe, -⟩ := HO.out.shape
              subst hoe
              go_wp2_with (at_builtin; refine wpList_appInts rfl (.tmp 82) (.tmp 83) 28 rfl 5 .u8 i0 (.int .u8 0) 1 Try.underlying28 HI.out.1 HI.out.2.1 HI.out.2.2.1 HI.out.2.2.2 rfl (.slice oa (ints x).length ocp) (ints x) rfl HOU.out ua7 n7 ucp7 _ rfl HU7.out.2 HU7.out.1 (by have := HXL.out; have := HN7.out; rw [ints_length]; omega) (by have := HXL.out; have := HN7.out; rw [ints_length]; simp only [maxLen]; omega) ?_; intro v8 w8 ho8 hk8 hpr8; have hR8 : RB w8 a (.slice (some ad) (4) cp5) false false := hk8.blk HB7.out (fun h => HUA.out a h rfl); obtain ⟨⟨z0, z0'⟩, ⟨z1, z1'⟩, z2, z2'⟩ := blkR hR8; have H8 := Lib.hid (And.intro ho8 (And.intro hk8 (And.intro hpr8 hR8))); have hz0 : RB (w8.setCell ⟨a, 1, none⟩ (.bool lb)) a (.slice (some ad) (4) cp5) lb false := blk_set hR8 1 (.bool lb); obtain ⟨⟨j0, j0'⟩, -, -⟩ := blkR hz0; clear ho8 hk8 hpr8 hR8 hz0 x0 x0' x1 x1' x2 x2')
              have h6 := H6.out
              have hW8 : Kept (fun i => (i = a ∨ o' = some i) ∨ w1.heap.size ≤ i ∨ (Value.slice oa (ints x).length ocp).ownBlock = some i) w1 w8 := ((h6.2.2.2.1.mono fun _ _ h => .inl h).then ((HK7.out.mono fun _ _ h => h.elim).then (H8.out.2.1.mono fun _ _ h => .inr (.inr h))))
              go_roundg (gk - 1)
              case rel =>
                obtain ⟨rfl, rfl⟩ := HNX.out
                refine ⟨k + 1, _, _, none, by omega, by omega, by simp, HST.out, ?_, ?_, ?_, ?_, ?_, HSM.out⟩
                · rw [HLB.out.1, HLB.out.2]
                  exact rd_nil (blk_set (blk_set H8.out.2.2.2 1 (.bool lb)) 0 (.slice none 0 0))
                · refine ⟨?_, .inr (.inl rfl)⟩
                  refine Kept.setCell (p := ⟨a, 0, none⟩) (Kept.setCell (p := ⟨a, 1, none⟩) ?_ (.inl (.inl rfl)) _) (.inl (.inl rfl)) _
                  refine HE.out.1.trans ((HK1.out.mono fun _ _ h => h.elim).then (hW8.mono fun i hi hS => ?_))
                  have hsz := HE.out.1.size
                  have hsz1 := HK1.out.size
                  rcases hS with (rfl | hS) | hS | hS
                  · exact .inl (.inl rfl)
                  · rcases HE.out.2 with h | h | ⟨g, h, hg⟩
                    · exact .inl (.inr (by rw [← h]; exact hS))
                    · rw [h] at hS; cases hS
                    · rw [h] at hS; have := Option.some.inj hS; exact .inr (by omega)
                  · exact .inr (by omega)
                  · rcases HF.out with h | ⟨g, h, hg⟩
                    · rw [h] at hS; cases hS
                    · rw [h] at hS; have := Option.some.inj hS; exact .inr (by omega)
                · rw [ints_append]
                  refine (H8.out.1.kept (S := fun i => i = a) ?_ ?_)
                  · exact ((Kept.refl (fun i => i = a) w8).setCell (p := ⟨a, 1, none⟩) (.inl rfl) _).setCell (p := ⟨a, 0, none⟩) (.inl rfl) _
                  · intro b hb hS
                    rcases H8.out.2.2.1 with h | h
                    · rw [h] at hb; exact HUA.out b hb hS
                    · rw [h] at hb; have := Option.some.inj hb; have := lt_of_blk HB7.out; omega
                · rcases H8.out.2.2.1 with h | h
                  · rcases HF.out with h2 | ⟨g, h2, hg⟩
                    · exact .inl (h.trans h2)
                    · exact .inr ⟨g, h.trans h2, hg⟩
                  · exact .inr ⟨_, h, by have := HE.out.1.size; have := HK1.out.size; have := h6.2.2.2.1.size; have := HK7.out.size; omega⟩
                · intro b _ h; cases h
              case measure => omega
        · have HNX := Lib.hid (put_lt hp (by rw [hn]; omega))
          have g4 : ((n : Int) + 1 == 4) = false := by simp; omega
          have g5 : (((n + 1 : Nat) : Int) == 4) = false := by simp; omega
          clear hp hstep hfull hsml hftt hlate hlf h3
          by_cases hB : 0 < n ∧ c = 61
          · obtain ⟨hB1, hB2⟩ := hB
            have gn : decide (0 < n) = true := decide_eq_true hB1
            have gc : ((c : Int) == 61) = true := by simp; omega
            have gm : decide ((m0 : Int) < 2) = false := decide_eq_false (by have := hfew2 hB2; omega)
            clear hfew hfew2 hB1 hB2
            go_wp2_with fail
            refine HSG0.out.mono ?_
            rintro e w1' ⟨rfl, rfl⟩
            go_wp2_with fail
            refine HFI.out.mono ?_
            rintro e w1 ⟨rfl, hk1⟩
            have HK1 := Lib.hid hk1
            have HRB := Lib.hid (hk1.blk HRB0.out id : RB w1 a (.slice sa n cp) false false)
            have HOW := Lib.hid (HOW0.out.kept hk1 (fun _ _ => id))
            have hck1 := hk1.cell hck id
            clear c0 c1 c2 hck hk1 gc
            obtain ⟨⟨c0, f0⟩, ⟨c1, f1⟩, ⟨c2, f2⟩⟩ := blkR HRB.out
            have hca : (w1.alloc (.cells #[.int .u8 (c : Int)] 5)).cell? ⟨b, off + k, none⟩ = some (.int .u8 (c : Int)) := ((Kept.refl (fun _ => False) w1).alloc _).cell hck1 id
            have hba : RB (w1.alloc (.cells #[.int .u8 (c : Int)] 5)) a (.slice sa n cp) false false := ((Kept.refl (fun _ => False) w1).alloc _).blk HRB.out id
            obtain ⟨⟨d0, d0'⟩, -, -⟩ := blkR hba
            have hs1 : SlAt .u8 ((w1.alloc (.cells #[.int .u8 (c : Int)] 5)).drew) (some ⟨w1.heap.size, 0, none⟩) 1 [(c : Int)] := slAt_blk (blk_new w1 (.cells #[.int .u8 (c : Int)] 5)) rfl rfl
            have hoa : Own .u8 5 ((w1.alloc (.cells #[.int .u8 (c : Int)] 5)).drew) (.slice sa n cp) (ints t.wait) := HOW.out.kept (((Kept.refl (fun _ => False) w1).alloc _).drew) (fun _ _ => id)
            have HSB := Lib.hid (And.intro hs1 hoa)
            have HB5 := Lib.hid (show ((ints t.wait).length + 1) * 1 ≤ 140737488355328 ∧ (ints t.wait).length + 1 ≤ maxLen from by have := HTN.out; rw [ints_length]; constructor; (omega); (simp only [maxLen]; omega))
            clear hs1 hoa hba
            go_wp2
            go_region_law (refine step_appInts rfl (.tmp 55) (.tmp 60) 28 rfl 5 .u8 i0 (.int .u8 0) 1 Try.underlying28 HI.out.1 HI.out.2.1 HI.out.2.2.1 HI.out.2.2.2 rfl (.slice sa n cp) (ints t.wait) rfl (by exact HSB.out.2) (some ⟨w1.heap.size, 0, none⟩) 1 1 [(c : Int)] rfl (fun h => by cases h) (by exact HSB.out.1) HB5.out.1 HB5.out.2 ?_; intro v5 w5 ho5 hk5 hpr5; have hq5 := app_field (i := 0) HRB.out HVO.out HOA.out (((Kept.refl (fun _ => False) w1).alloc _).drew) ho5 hk5 hpr5; have hb5 : RB w5 a (.slice sa n cp) false false := hk5.blk (((Kept.refl (fun _ => False) w1).alloc _).blk HRB.out id) (fun h => HOA.out (by rw [← HVO.out]; exact h)); obtain ⟨⟨y0, y0'⟩, -, -⟩ := blkR hb5; obtain ⟨a5, cp5, hv5⟩ := ho5.len2 (n + 1) (by rw [List.length_append, ints_length, HTN.out]; rfl); subst hv5; have H5 := Lib.hid hq5; clear hq5 ho5 hk5 hpr5 hb5; clear c0 f0 c1 f1 c2 f2 d0 d0' hca hck1)
            all_goals
              obtain ⟨X, hX⟩ : ∃ X, w5.setCell ⟨a, 0, none⟩ (.slice a5 (n + 1) cp5) = X := ⟨_, rfl⟩
              have h5 := H5.out
              rw [hX] at h5
              obtain ⟨hRX, hOX, hAX, hKX, hFX⟩ := h5
              have hRX' : RB X a (.slice a5 (n + 1) cp5) false false := hRX
              have H6 := Lib.hid (And.intro hRX' (And.intro hOX (And.intro hAX (And.intro hKX hFX))))
              obtain ⟨⟨x0, x0'⟩, ⟨x1, x1'⟩, x2, x2'⟩ := blkR hRX'
              clear hRX hRX' hOX hAX hKX hFX H5
              go_wp2
              have h6 := H6.out
              go_roundg (gk - 1)
              case rel =>
                obtain ⟨rfl, rfl⟩ := HNX.out
                refine ⟨k + 1, _, _, (Value.slice a5 (n + 1) cp5).ownBlock, by omega, by omega, by simp, HST.out, ⟨_, h6.1, ?_, rfl, h6.2.2.1, HFT.out⟩, ?_, ?_, ?_, ?_, HSM.out⟩
                · show Own .u8 5 _ _ (ints (t.wait ++ [c])); rw [ints_append]; exact h6.2.1
                · refine HE.out.trans ⟨HK1.out.mono (fun _ _ h => h.elim) |>.then h6.2.2.2.1, ?_⟩
                  rcases h6.2.2.2.2 with h | ⟨g, h, hg⟩
                  · exact .inl h
                  · exact .inr (.inr ⟨g, h, by have := HK1.out.size; omega⟩)
                · rw [List.append_nil]
                  exact (HO.out.up1 HK1.out).kept h6.2.2.2.1 (fun b hb hS => by
                    rcases hS with hS | hS
                    · exact HUA.out b hb hS
                    · exact HAP.out b hb hS)
                · exact HF.out
                · intro b hb hh
                  rcases h6.2.2.2.2 with h | ⟨g, h, hg⟩
                  · rw [h] at hh; exact HAP.out b hb hh
                  · rw [h] at hh; have := Option.some.inj hh; have := HO.out.lt b hb; have := HK1.out.size; omega
              case measure => omega
          · have hA : n = 0 ∨ c ≠ 61 := by omega
            clear hB
            rcases hA with hA | hA
            · subst hA
              have gc : ((c : Int) == 61) = false := by
                have : c ≠ 61 := fun h => hfew2 h (hfew.2 (by omega))
                simp
                omega
              clear hfew hfew2
              go_wp2_with fail
              refine HFI.out.mono ?_
              rintro e w1 ⟨rfl, hk1⟩
              have HK1 := Lib.hid hk1
              have HRB := Lib.hid (hk1.blk HRB0.out id : RB w1 a (.slice sa 0 cp) false false)
              have HOW := Lib.hid (HOW0.out.kept hk1 (fun _ _ => id))
              have hck1 := hk1.cell hck id
              clear c0 c1 c2 hck hk1
              obtain ⟨⟨c0, f0⟩, ⟨c1, f1⟩, ⟨c2, f2⟩⟩ := blkR HRB.out
              have hca : (w1.alloc (.cells #[.int .u8 (c : Int)] 5)).cell? ⟨b, off + k, none⟩ = some (.int .u8 (c : Int)) := ((Kept.refl (fun _ => False) w1).alloc _).cell hck1 id
              have hba : RB (w1.alloc (.cells #[.int .u8 (c : Int)] 5)) a (.slice sa 0 cp) false false := ((Kept.refl (fun _ => False) w1).alloc _).blk HRB.out id
              obtain ⟨⟨d0, d0'⟩, -, -⟩ := blkR hba
              have hs1 : SlAt .u8 ((w1.alloc (.cells #[.int .u8 (c : Int)] 5)).drew) (some ⟨w1.heap.size, 0, none⟩) 1 [(c : Int)] := slAt_blk (blk_new w1 (.cells #[.int .u8 (c : Int)] 5)) rfl rfl
              have hoa : Own .u8 5 ((w1.alloc (.cells #[.int .u8 (c : Int)] 5)).drew) (.slice sa 0 cp) (ints t.wait) := HOW.out.kept (((Kept.refl (fun _ => False) w1).alloc _).drew) (fun _ _ => id)
              have HSB := Lib.hid (And.intro hs1 hoa)
              have HB5 := Lib.hid (show ((ints t.wait).length + 1) * 1 ≤ 140737488355328 ∧ (ints t.wait).length + 1 ≤ maxLen from by have := HTN.out; rw [ints_length]; constructor; (omega); (simp only [maxLen]; omega))
              clear hs1 hoa hba
              go_wp2
              go_region_law (refine step_appInts rfl (.tmp 55) (.tmp 60) 28 rfl 5 .u8 i0 (.int .u8 0) 1 Try.underlying28 HI.out.1 HI.out.2.1 HI.out.2.2.1 HI.out.2.2.2 rfl (.slice sa 0 cp) (ints t.wait) rfl (by exact HSB.out.2) (some ⟨w1.heap.size, 0, none⟩) 1 1 [(c : Int)] rfl (fun h => by cases h) (by exact HSB.out.1) HB5.out.1 HB5.out.2 ?_; intro v5 w5 ho5 hk5 hpr5; have hq5 := app_field (i := 0) HRB.out HVO.out HOA.out (((Kept.refl (fun _ => False) w1).alloc _).drew) ho5 hk5 hpr5; have hb5 : RB w5 a (.slice sa 0 cp) false false := hk5.blk (((Kept.refl (fun _ => False) w1).alloc _).blk HRB.out id) (fun h => HOA.out (by rw [← HVO.out]; exact h)); obtain ⟨⟨y0, y0'⟩, -, -⟩ := blkR hb5; obtain ⟨a5, cp5, hv5⟩ := ho5.len2 (1) (by rw [List.length_append, ints_length, HTN.out]; rfl); subst hv5; have H5 := Lib.hid hq5; clear hq5 ho5 hk5 hpr5 hb5; clear c0 f0 c1 f1 c2 f2 d0 d0' hca hck1)
              all_goals
                obtain ⟨X, hX⟩ : ∃ X, w5.setCell ⟨a, 0, none⟩ (.slice a5 (1) cp5) = X := ⟨_, rfl⟩
                have h5 := H5.out
                rw [hX] at h5
                obtain ⟨hRX, hOX, hAX, hKX, hFX⟩ := h5
                have hRX' : RB X a (.slice a5 (1) cp5) false false := hRX
                have H6 := Lib.hid (And.intro hRX' (And.intro hOX (And.intro hAX (And.intro hKX hFX))))
                obtain ⟨⟨x0, x0'⟩, ⟨x1, x1'⟩, x2, x2'⟩ := blkR hRX'
                clear hRX hRX' hOX hAX hKX hFX H5
                go_wp2
                have h6 := H6.out
                go_roundg (gk - 1)
                case rel =>
                  obtain ⟨rfl, rfl⟩ := HNX.out
                  refine ⟨k + 1, _, _, (Value.slice a5 (1) cp5).ownBlock, by omega, by omega, by simp, HST.out, ⟨_, h6.1, ?_, rfl, h6.2.2.1, HFT.out⟩, ?_, ?_, ?_, ?_, HSM.out⟩
                  · show Own .u8 5 _ _ (ints (t.wait ++ [c])); rw [ints_append]; exact h6.2.1
                  · refine HE.out.trans ⟨HK1.out.mono (fun _ _ h => h.elim) |>.then h6.2.2.2.1, ?_⟩
                    rcases h6.2.2.2.2 with h | ⟨g, h, hg⟩
                    · exact .inl h
                    · exact .inr (.inr ⟨g, h, by have := HK1.out.size; omega⟩)
                  · rw [List.append_nil]
                    exact (HO.out.up1 HK1.out).kept h6.2.2.2.1 (fun b hb hS => by
                      rcases hS with hS | hS
                      · exact HUA.out b hb hS
                      · exact HAP.out b hb hS)
                  · exact HF.out
                  · intro b hb hh
                    rcases h6.2.2.2.2 with h | ⟨g, h, hg⟩
                    · rw [h] at hh; exact HAP.out b hb hh
                    · rw [h] at hh; have := Option.some.inj hh; have := HO.out.lt b hb; have := HK1.out.size; omega
                case measure => omega
            · have gc : ((c : Int) == 61) = false := by simp; omega
              by_cases hA2 : 0 < n
              · have gn : decide (0 < n) = true := decide_eq_true hA2
                clear hA hA2
                clear hfew hfew2
                go_wp2_with fail
                refine HFI.out.mono ?_
                rintro e w1 ⟨rfl, hk1⟩
                have HK1 := Lib.hid hk1
                have HRB := Lib.hid (hk1.blk HRB0.out id : RB w1 a (.slice sa n cp) false false)
                have HOW := Lib.hid (HOW0.out.kept hk1 (fun _ _ => id))
                have hck1 := hk1.cell hck id
                clear c0 c1 c2 hck hk1
                obtain ⟨⟨c0, f0⟩, ⟨c1, f1⟩, ⟨c2, f2⟩⟩ := blkR HRB.out
                have hca : (w1.alloc (.cells #[.int .u8 (c : Int)] 5)).cell? ⟨b, off + k, none⟩ = some (.int .u8 (c : Int)) := ((Kept.refl (fun _ => False) w1).alloc _).cell hck1 id
                have hba : RB (w1.alloc (.cells #[.int .u8 (c : Int)] 5)) a (.slice sa n cp) false false := ((Kept.refl (fun _ => False) w1).alloc _).blk HRB.out id
                obtain ⟨⟨d0, d0'⟩, -, -⟩ := blkR hba
                have hs1 : SlAt .u8 ((w1.alloc (.cells #[.int .u8 (c : Int)] 5)).drew) (some ⟨w1.heap.size, 0, none⟩) 1 [(c : Int)] := slAt_blk (blk_new w1 (.cells #[.int .u8 (c : Int)] 5)) rfl rfl
                have hoa : Own .u8 5 ((w1.alloc (.cells #[.int .u8 (c : Int)] 5)).drew) (.slice sa n cp) (ints t.wait) := HOW.out.kept (((Kept.refl (fun _ => False) w1).alloc _).drew) (fun _ _ => id)
                have HSB := Lib.hid (And.intro hs1 hoa)
                have HB5 := Lib.hid (show ((ints t.wait).length + 1) * 1 ≤ 140737488355328 ∧ (ints t.wait).length + 1 ≤ maxLen from by have := HTN.out; rw [ints_length]; constructor; (omega); (simp only [maxLen]; omega))
                clear hs1 hoa hba
                go_wp2
                go_region_law (refine step_appInts rfl (.tmp 55) (.tmp 60) 28 rfl 5 .u8 i0 (.int .u8 0) 1 Try.underlying28 HI.out.1 HI.out.2.1 HI.out.2.2.1 HI.out.2.2.2 rfl (.slice sa n cp) (ints t.wait) rfl (by exact HSB.out.2) (some ⟨w1.heap.size, 0, none⟩) 1 1 [(c : Int)] rfl (fun h => by cases h) (by exact HSB.out.1) HB5.out.1 HB5.out.2 ?_; intro v5 w5 ho5 hk5 hpr5; have hq5 := app_field (i := 0) HRB.out HVO.out HOA.out (((Kept.refl (fun _ => False) w1).alloc _).drew) ho5 hk5 hpr5; have hb5 : RB w5 a (.slice sa n cp) false false := hk5.blk (((Kept.refl (fun _ => False) w1).alloc _).blk HRB.out id) (fun h => HOA.out (by rw [← HVO.out]; exact h)); obtain ⟨⟨y0, y0'⟩, -, -⟩ := blkR hb5; obtain ⟨a5, cp5, hv5⟩ := ho5.len2 (n + 1) (by rw [List.length_append, ints_length, HTN.out]; rfl); subst hv5; have H5 := Lib.hid hq5; clear hq5 ho5 hk5 hpr5 hb5; clear c0 f0 c1 f1 c2 f2 d0 d0' hca hck1)
                all_goals
                  obtain ⟨X, hX⟩ : ∃ X, w5.setCell ⟨a, 0, none⟩ (.slice a5 (n + 1) cp5) = X := ⟨_, rfl⟩
                  have h5 := H5.out
                  rw [hX] at h5
                  obtain ⟨hRX, hOX, hAX, hKX, hFX⟩ := h5
                  have hRX' : RB X a (.slice a5 (n + 1) cp5) false false := hRX
                  have H6 := Lib.hid (And.intro hRX' (And.intro hOX (And.intro hAX (And.intro hKX hFX))))
                  obtain ⟨⟨x0, x0'⟩, ⟨x1, x1'⟩, x2, x2'⟩ := blkR hRX'
                  clear hRX hRX' hOX hAX hKX hFX H5
                  go_wp2
                  have h6 := H6.out
                  go_roundg (gk - 1)
                  case rel =>
                    obtain ⟨rfl, rfl⟩ := HNX.out
                    refine ⟨k + 1, _, _, (Value.slice a5 (n + 1) cp5).ownBlock, by omega, by omega, by simp, HST.out, ⟨_, h6.1, ?_, rfl, h6.2.2.1, HFT.out⟩, ?_, ?_, ?_, ?_, HSM.out⟩
                    · show Own .u8 5 _ _ (ints (t.wait ++ [c])); rw [ints_append]; exact h6.2.1
                    · refine HE.out.trans ⟨HK1.out.mono (fun _ _ h => h.elim) |>.then h6.2.2.2.1, ?_⟩
                      rcases h6.2.2.2.2 with h | ⟨g, h, hg⟩
                      · exact .inl h
                      · exact .inr (.inr ⟨g, h, by have := HK1.out.size; omega⟩)
                    · rw [List.append_nil]
                      exact (HO.out.up1 HK1.out).kept h6.2.2.2.1 (fun b hb hS => by
                        rcases hS with hS | hS
                        · exact HUA.out b hb hS
                        · exact HAP.out b hb hS)
                    · exact HF.out
                    · intro b hb hh
                      rcases h6.2.2.2.2 with h | ⟨g, h, hg⟩
                      · rw [h] at hh; exact HAP.out b hb hh
                      · rw [h] at hh; have := Option.some.inj hh; have := HO.out.lt b hb; have := HK1.out.size; omega
                  case measure => omega
              · obtain rfl : n = 0 := by omega
                clear hA hA2
                clear hfew hfew2
                go_wp2_with fail
                refine HFI.out.mono ?_
                rintro e w1 ⟨rfl, hk1⟩
                have HK1 := Lib.hid hk1
                have HRB := Lib.hid (hk1.blk HRB0.out id : RB w1 a (.slice sa 0 cp) false false)
                have HOW := Lib.hid (HOW0.out.kept hk1 (fun _ _ => id))
                have hck1 := hk1.cell hck id
                clear c0 c1 c2 hck hk1
                obtain ⟨⟨c0, f0⟩, ⟨c1, f1⟩, ⟨c2, f2⟩⟩ := blkR HRB.out
                have hca : (w1.alloc (.cells #[.int .u8 (c : Int)] 5)).cell? ⟨b, off + k, none⟩ = some (.int .u8 (c : Int)) := ((Kept.refl (fun _ => False) w1).alloc _).cell hck1 id
                have hba : RB (w1.alloc (.cells #[.int .u8 (c : Int)] 5)) a (.slice sa 0 cp) false false := ((Kept.refl (fun _ => False) w1).alloc _).blk HRB.out id
                obtain ⟨⟨d0, d0'⟩, -, -⟩ := blkR hba
                have hs1 : SlAt .u8 ((w1.alloc (.cells #[.int .u8 (c : Int)] 5)).drew) (some ⟨w1.heap.size, 0, none⟩) 1 [(c : Int)] := slAt_blk (blk_new w1 (.cells #[.int .u8 (c : Int)] 5)) rfl rfl
                have hoa : Own .u8 5 ((w1.alloc (.cells #[.int .u8 (c : Int)] 5)).drew) (.slice sa 0 cp) (ints t.wait) := HOW.out.kept (((Kept.refl (fun _ => False) w1).alloc _).drew) (fun _ _ => id)
                have HSB := Lib.hid (And.intro hs1 hoa)
                have HB5 := Lib.hid (show ((ints t.wait).length + 1) * 1 ≤ 140737488355328 ∧ (ints t.wait).length + 1 ≤ maxLen from by have := HTN.out; rw [ints_length]; constructor; (omega); (simp only [maxLen]; omega))
                clear hs1 hoa hba
                go_wp2
                go_region_law (refine step_appInts rfl (.tmp 55) (.tmp 60) 28 rfl 5 .u8 i0 (.int .u8 0) 1 Try.underlying28 HI.out.1 HI.out.2.1 HI.out.2.2.1 HI.out.2.2.2 rfl (.slice sa 0 cp) (ints t.wait) rfl (by exact HSB.out.2) (some ⟨w1.heap.size, 0, none⟩) 1 1 [(c : Int)] rfl (fun h => by cases h) (by exact HSB.out.1) HB5.out.1 HB5.out.2 ?_; intro v5 w5 ho5 hk5 hpr5; have hq5 := app_field (i := 0) HRB.out HVO.out HOA.out (((Kept.refl (fun _ => False) w1).alloc _).drew) ho5 hk5 hpr5; have hb5 : RB w5 a (.slice sa 0 cp) false false := hk5.blk (((Kept.refl (fun _ => False) w1).alloc _).blk HRB.out id) (fun h => HOA.out (by rw [← HVO.out]; exact h)); obtain ⟨⟨y0, y0'⟩, -, -⟩ := blkR hb5; obtain ⟨a5, cp5, hv5⟩ := ho5.len2 (1) (by rw [List.length_append, ints_length, HTN.out]; rfl); subst hv5; have H5 := Lib.hid hq5; clear hq5 ho5 hk5 hpr5 hb5; clear c0 f0 c1 f1 c2 f2 d0 d0' hca hck1)
                all_goals
                  obtain ⟨X, hX⟩ : ∃ X, w5.setCell ⟨a, 0, none⟩ (.slice a5 (1) cp5) = X := ⟨_, rfl⟩
                  have h5 := H5.out
                  rw [hX] at h5
                  obtain ⟨hRX, hOX, hAX, hKX, hFX⟩ := h5
                  have hRX' : RB X a (.slice a5 (1) cp5) false false := hRX
                  have H6 := Lib.hid (And.intro hRX' (And.intro hOX (And.intro hAX (And.intro hKX hFX))))
                  obtain ⟨⟨x0, x0'⟩, ⟨x1, x1'⟩, x2, x2'⟩ := blkR hRX'
                  clear hRX hRX' hOX hAX hKX hFX H5
                  go_wp2
                  have h6 := H6.out
                  go_roundg (gk - 1)
                  case rel =>
                    obtain ⟨rfl, rfl⟩ := HNX.out
                    refine ⟨k + 1, _, _, (Value.slice a5 (1) cp5).ownBlock, by omega, by omega, by simp, HST.out, ⟨_, h6.1, ?_, rfl, h6.2.2.1, HFT.out⟩, ?_, ?_, ?_, ?_, HSM.out⟩
                    · show Own .u8 5 _ _ (ints (t.wait ++ [c])); rw [ints_append]; exact h6.2.1
                    · refine HE.out.trans ⟨HK1.out.mono (fun _ _ h => h.elim) |>.then h6.2.2.2.1, ?_⟩
                      rcases h6.2.2.2.2 with h | ⟨g, h, hg⟩
                      · exact .inl h
                      · exact .inr (.inr ⟨g, h, by have := HK1.out.size; omega⟩)
                    · rw [List.append_nil]
                      exact (HO.out.up1 HK1.out).kept h6.2.2.2.1 (fun b hb hS => by
                        rcases hS with hS | hS
                        · exact HUA.out b hb hS
                        · exact HAP.out b hb hS)
                    · exact HF.out
                    · intro b hb hh
                      rcases h6.2.2.2.2 with h | ⟨g, h, hg⟩
                      · rw [h] at hh; exact HAP.out b hb hh
                      · rw [h] at hh; have := Option.some.inj hh; have := HO.out.lt b hb; have := HK1.out.size; omega
                  case measure => omega
    · obtain rfl : k = len := by omega
      have gkk : decide (k < k) = false := decide_eq_false (by omega)
      rw [List.take_of_length_le (by rw [HLN.out]; omega)] at hrun
      have hw : write s bs = (t, x, 0) := by
        unfold write
        rw [HB.out, hrun]
        rfl
      have HW := Lib.hid hw
      have HR := Lib.hid (And.intro ho (And.intro hd (And.intro hext hf)))
      clear hrun hw hd ho hext hf hap hsmt
      go_wp2
      refine bodyPost_ret (v := .tuple #[u6, .int .i64 0]) (by simp [results, Try.results14, go_sem]) rfl ?_
      unfold RPost
      rw [HW.out]
      exact ⟨u6, o', rfl, HR.out⟩
end Go.Proofs.Ytgmbjebighhgkaa
