/- The document's fits. -/
import Derived.Test.YtgmbjebighhgkaaThree
namespace Go.Proofs.Ytgmbjebighhgkaa
open Go.RowKit
set_option linter.unusedVariables false
set_option linter.unusedSimpArgs false
/-- Signs that may be looked at by three. -/
def Signs (x : List Nat) : Prop := (x.length = 2 ∨ x.length = 3 ∨ x.length = 4) ∧ ∀ c ∈ x, val c < 64 ∧ c < 256
theorem three_any (x : List Nat) (hx : Signs x) (sa : Option Addr) (n cap : Nat) (w : World) (hl : n ≤ cap) (hs : SlAt .u8 w sa n (ints x)) : Calls Try.prog 24 #[.slice sa n cap] w (ThreePost x w) := by
  obtain ⟨hlen, hv⟩ := hx
  have hn : x.length = n := by rw [← hs.1, ints_length]
  match x, hlen, hv, hn, hs with
  | [p, q], _, hv, hn, hs =>
    subst hn
    have h1 := hv p (by simp)
    have h2 := hv q (by simp)
    cases hcl : clean [p, q] with
    | true => exact three_2y p q sa cap w h1.1 h1.2 h2.1 h2.2 hl hs hcl
    | false => exact three_2n p q sa cap w h1.1 h1.2 h2.1 h2.2 hl hs hcl
  | [p, q, r], _, hv, hn, hs =>
    subst hn
    have h1 := hv p (by simp)
    have h2 := hv q (by simp)
    have h3 := hv r (by simp)
    cases hcl : clean [p, q, r] with
    | true => exact three_3y p q r sa cap w h1.1 h1.2 h2.1 h2.2 h3.1 h3.2 hl hs hcl
    | false => exact three_3n p q r sa cap w h1.1 h1.2 h2.1 h2.2 h3.1 h3.2 hl hs hcl
  | [p, q, r, z], _, hv, hn, hs =>
    subst hn
    have h1 := hv p (by simp)
    have h2 := hv q (by simp)
    have h3 := hv r (by simp)
    have h4 := hv z (by simp)
    exact three_4y p q r z sa cap w h1.1 h1.2 h2.1 h2.2 h3.1 h3.2 h4.1 h4.2 hl hs
theorem sgn_prefix (w : List Nat) : sgn w = w.take (sgn w).length := by
  have h := List.takeWhile_prefix (p := fun c => decide (c ≠ 61)) (l := w)
  exact (List.prefix_iff_eq_take.1 h)
theorem SlAt.front {w : World} {sa : Option Addr} {n : Nat} {x : List Nat} (h : SlAt .u8 w sa n (ints x)) {m : Nat} (hm : m ≤ n) : SlAt .u8 w sa m (ints (x.take m)) := by
  obtain ⟨h1, h2⟩ := h
  rw [ints_length] at h1
  refine ⟨by rw [ints_length, List.length_take]; omega, ?_⟩
  rcases h2 with h2 | ⟨b, off, e, hc⟩
  · exact .inl (by omega)
  · refine .inr ⟨b, off, e, fun j hj => ?_⟩
    rw [hc j (by omega)]
    have hjx : j < x.length := by omega
    simp [ints, List.getElem?_take, hj, hjx]
/-- The document's decoder, its cells alone. -/
def RB (w : World) (a : Nat) (v : Value) (l b : Bool) : Prop := w.heap[a]? = some (.cells #[v, .bool l, .bool b] 30 (0, 0))
set_option maxRecDepth 100000 in
set_option maxHeartbeats 4000000 in
theorem fits_last (a c : Nat) (sa : Option Addr) (n cap : Nat) (wt : List Nat) (b : Bool) (w : World) (h : RB w a (.slice sa n cap) true b) (hs : SlAt .u8 w sa n (ints wt)) (hl : n ≤ 3) :
    Calls Try.prog 27 #[.pointer (some ⟨a, 0, none⟩), .int .u8 c] w fun e w' => e = .returned (.bool false) ∧ w' = w := by
  have HS := Lib.hid (signs_raw a sa n cap wt _ _ w h hs (by omega))
  obtain ⟨⟨c0, -⟩, ⟨c1, -⟩, -⟩ := blkR h
  clear h hs
  go_enter Try.func27, Try.ntmps27
  go_wp2_with fail
  refine HS.out.mono ?_
  rintro e w' ⟨rfl, rfl⟩
  go_wp2
  exact bodyPost_ret (v := .bool false) (by simp [results, Try.results27, go_sem]) rfl ⟨rfl, rfl⟩
set_option maxRecDepth 100000 in
set_option maxHeartbeats 4000000 in
theorem fits_few (a : Nat) (sa : Option Addr) (n cap : Nat) (wt : List Nat) (b : Bool) (w : World) (h : RB w a (.slice sa n cap) false b) (hs : SlAt .u8 w sa n (ints wt)) (hl : n ≤ 3) (h2 : (sgn wt).length < 2) :
    Calls Try.prog 27 #[.pointer (some ⟨a, 0, none⟩), .int .u8 61] w fun e w' => e = .returned (.bool false) ∧ w' = w := by
  have HS := Lib.hid (signs_raw a sa n cap wt _ _ w h hs (by omega))
  obtain ⟨m, hm⟩ : ∃ m, (sgn wt).length = m := ⟨_, rfl⟩
  rw [hm] at HS h2
  have g : decide (m < 2) = true := decide_eq_true h2
  obtain ⟨⟨c0, -⟩, ⟨c1, -⟩, -⟩ := blkR h
  clear h hs hm
  go_enter Try.func27, Try.ntmps27
  go_wp2_with fail
  refine HS.out.mono ?_
  rintro e w' ⟨rfl, rfl⟩
  go_wp2
  exact bodyPost_ret (v := .bool false) (by simp [results, Try.results27, go_sem]) rfl ⟨rfl, rfl⟩
set_option maxRecDepth 100000 in
set_option maxHeartbeats 4000000 in
theorem fits_three (a : Nat) (sa : Option Addr) (n cap : Nat) (wt : List Nat) (b : Bool) (w : World) (h : RB w a (.slice sa n cap) false b) (hs : SlAt .u8 w sa n (ints wt)) (hl : n ≤ 3) (hc : n ≤ cap) (h2 : Signs (sgn wt)) :
    Calls Try.prog 27 #[.pointer (some ⟨a, 0, none⟩), .int .u8 61] w fun e w' => e = .returned (.bool (clean (sgn wt))) ∧ Kept (fun _ => False) w w' := by
  have HS := Lib.hid (signs_raw a sa n cap wt _ _ w h hs (by omega))
  have hle := sgn_le wt
  have hn : wt.length = n := by rw [← hs.1, ints_length]
  have hT := three_any (sgn wt) h2 sa (sgn wt).length cap w (by omega) (by have := hs.front (m := (sgn wt).length) (by omega); rwa [← sgn_prefix] at this)
  have h2' := h2.1
  obtain ⟨cl, hcl⟩ : ∃ m, clean (sgn wt) = m := ⟨_, rfl⟩
  unfold ThreePost at hT
  rw [hcl] at hT ⊢
  obtain ⟨m, hm⟩ : ∃ m, (sgn wt).length = m := ⟨_, rfl⟩
  rw [hm] at HS h2' hle hT
  have HT := Lib.hid hT
  obtain ⟨⟨c0, -⟩, ⟨c1, -⟩, -⟩ := blkR h
  have h0 : sa ≠ none := by
    rintro rfl
    rcases hs.2 with h | ⟨b, off, h, -⟩
    · omega
    · cases h
  obtain ⟨ad, rfl⟩ := Option.ne_none_iff_exists'.1 h0
  have hm3 : m = 2 ∨ m = 3 := by omega
  have hmc : m ≤ cap := by omega
  clear h hs hm hcl h2 h2' hn hT h0
  rcases hm3 with rfl | rfl
  all_goals
    have l1 : (2 : Int) ≤ (cap : Int) := by omega
    go_enter Try.func27, Try.ntmps27
    go_wp2_with fail
    refine HS.out.mono ?_
    rintro e w' ⟨rfl, rfl⟩
    go_wp2_with fail
    refine HT.out.mono ?_
    rintro e w1 ⟨u, rfl, hu, hk, -⟩
    have HK := Lib.hid hk
    clear hu hk
    go_wp2
    exact bodyPost_ret (v := .bool cl) (by simp [results, Try.results27, go_sem]) rfl ⟨rfl, HK.out⟩
set_option maxRecDepth 100000 in
set_option maxHeartbeats 4000000 in
theorem fits_none (a c : Nat) (sa : Option Addr) (n cap : Nat) (wt : List Nat) (b : Bool) (w : World) (h : RB w a (.slice sa n cap) false b) (hs : SlAt .u8 w sa n (ints wt)) (hl : n ≤ 3) (h61 : c ≠ 61) (hc : c < 256) (hv : val c = 64) :
    Calls Try.prog 27 #[.pointer (some ⟨a, 0, none⟩), .int .u8 c] w fun e w' => e = .returned (.bool false) ∧ w' = w := by
  have HS := Lib.hid (signs_raw a sa n cap wt _ _ w h hs (by omega))
  obtain ⟨m, hm⟩ : ∃ m, (sgn wt).length = m := ⟨_, rfl⟩
  rw [hm] at HS
  have g : ((c : Int) == 61) = false := by simp; omega
  have HV := Lib.hid (value_no c hc hv w)
  obtain ⟨⟨c0, -⟩, ⟨c1, -⟩, -⟩ := blkR h
  clear h hs hm hv h61
  go_enter Try.func27, Try.ntmps27
  go_wp2_with fail
  refine HS.out.mono ?_
  rintro e w' ⟨rfl, rfl⟩
  go_wp2_with fail
  refine HV.out.mono ?_
  rintro e w' ⟨rfl, rfl⟩
  go_wp2
  exact bodyPost_ret (v := .bool false) (by simp [results, Try.results27, go_sem]) rfl ⟨rfl, rfl⟩
set_option maxRecDepth 100000 in
set_option maxHeartbeats 4000000 in
theorem fits_val (a c : Nat) (sa : Option Addr) (n cap : Nat) (wt : List Nat) (b : Bool) (w : World) (h : RB w a (.slice sa n cap) false b) (hs : SlAt .u8 w sa n (ints wt)) (hl : n ≤ 3) (hc : c < 256) (hv : val c < 64) :
    Calls Try.prog 27 #[.pointer (some ⟨a, 0, none⟩), .int .u8 c] w fun e w' => e = .returned (.bool (decide ((sgn wt).length = n))) ∧ w' = w := by
  have HS := Lib.hid (signs_raw a sa n cap wt _ _ w h hs (by omega))
  obtain ⟨m, hm⟩ : ∃ m, (sgn wt).length = m := ⟨_, rfl⟩
  rw [hm] at HS ⊢
  have h61 := ne_of_val hv
  have g : ((c : Int) == 61) = false := by simp; omega
  have HV := Lib.hid (value_some c hc hv w)
  obtain ⟨x, hx⟩ : ∃ x, val c = x := ⟨_, rfl⟩
  rw [hx] at HV
  have g2 : decide (0 ≤ (x : Int)) = true := decide_eq_true (by omega)
  have g3 : ((m : Int) == (n : Int)) = decide (m = n) := by
    rw [show ((m : Int) == (n : Int)) = decide ((m : Int) = (n : Int)) from rfl]; exact decide_eq_decide.2 (by omega)
  obtain ⟨r, hr⟩ : ∃ r, decide (m = n) = r := ⟨_, rfl⟩
  rw [hr] at g3 ⊢
  obtain ⟨⟨c0, -⟩, ⟨c1, -⟩, -⟩ := blkR h
  clear h hs hm hv h61 hx hr
  go_enter Try.func27, Try.ntmps27
  go_wp2_with fail
  refine HS.out.mono ?_
  rintro e w' ⟨rfl, rfl⟩
  go_wp2_with fail
  refine HV.out.mono ?_
  rintro e w' ⟨rfl, rfl⟩
  go_wp2
  exact bodyPost_ret (v := .bool r) (by simp [results, Try.results27, go_sem]) rfl ⟨rfl, rfl⟩
theorem fit_signs {s : St} (h : Fit s) (hb256 : ∀ c ∈ s.wait, c < 256) (h2 : 2 ≤ (sgn s.wait).length) : Signs (sgn s.wait) := by
  rcases h with e | ⟨x, e, ha, ha'⟩ | ⟨x, y, e, ha, hb, ha', hb'⟩ | ⟨x, y, z, e, ha, hb, hd, ha', hb', hd'⟩ | ⟨x, y, e, ha, hb, ha', hb', -⟩
  all_goals
    rw [e] at h2 hb256 ⊢
    clear e
  · simp [sgn_nil] at h2
  · simp [sgn_cons ha', sgn_nil] at h2
  · rw [sgn_cons ha', sgn_cons hb', sgn_nil]
    exact ⟨.inl rfl, by simp [ha, hb, hb256 x (by simp), hb256 y (by simp)]⟩
  · rw [sgn_cons ha', sgn_cons hb', sgn_cons hd', sgn_nil]
    exact ⟨.inr (.inl rfl), by simp [ha, hb, hd, hb256 x (by simp), hb256 y (by simp), hb256 z (by simp)]⟩
  · rw [sgn_cons ha', sgn_cons hb', sgn_fill]
    exact ⟨.inl rfl, by simp [ha, hb, hb256 x (by simp), hb256 y (by simp)]⟩
theorem fit_few {s : St} (h : Fit s) : (sgn s.wait).length < 2 ↔ s.wait.length < 2 := by
  rcases h with e | ⟨x, e, ha, ha'⟩ | ⟨x, y, e, ha, hb, ha', hb'⟩ | ⟨x, y, z, e, ha, hb, hd, ha', hb', hd'⟩ | ⟨x, y, e, ha, hb, ha', hb', -⟩ <;> rw [e] <;> simp [sgn_cons, sgn_fill, sgn_nil, *]
/-- May the sign stand next? -/
theorem fits_any (a c : Nat) (s : St) (sa : Option Addr) (n cap : Nat) (w : World) (h : RB w a (.slice sa n cap) s.last s.bad) (hs : SlAt .u8 w sa n (ints s.wait)) (hc : n ≤ cap) (hf : Fit s) (hb : ∀ c ∈ s.wait, c < 256) (h256 : c < 256) :
    Calls Try.prog 27 #[.pointer (some ⟨a, 0, none⟩), .int .u8 c] w fun e w' => e = .returned (.bool (put s c).isSome) ∧ Kept (fun _ => False) w w' := by
  have hl := fit_len hf
  have hn : s.wait.length = n := by rw [← hs.1, ints_length]
  cases hla : s.last with
  | true =>
    rw [hla] at h
    refine (fits_last a c sa n cap s.wait s.bad w h hs (by omega)).mono ?_
    rintro e w' ⟨rfl, rfl⟩
    exact ⟨by simp [put, hla], Kept.refl _ _⟩
  | false =>
    rw [hla] at h
    by_cases h61 : c = 61
    · subst h61
      by_cases h2 : (sgn s.wait).length < 2
      · refine (fits_few a sa n cap s.wait s.bad w h hs (by omega) h2).mono ?_
        rintro e w' ⟨rfl, rfl⟩
        have := (fit_few hf).1 h2
        exact ⟨by simp [put, hla, this], Kept.refl _ _⟩
      · refine (fits_three a sa n cap s.wait s.bad w h hs (by omega) hc (fit_signs hf hb (by omega))).mono ?_
        rintro e w' ⟨rfl, hk⟩
        have h3 : ¬ s.wait.length < 2 := fun h => h2 ((fit_few hf).2 h)
        refine ⟨ret_bool ?_, hk⟩
        unfold put
        rw [hla]
        cases hcl : clean (sgn s.wait) <;> simp [h3]
    · have hvl := val_le c
      by_cases hv : val c = 64
      · refine (fits_none a c sa n cap s.wait s.bad w h hs (by omega) h61 h256 hv).mono ?_
        rintro e w' ⟨rfl, rfl⟩
        exact ⟨by simp [put, hla, h61, hv], Kept.refl _ _⟩
      · refine (fits_val a c sa n cap s.wait s.bad w h hs (by omega) h256 (by omega)).mono ?_
        rintro e w' ⟨rfl, rfl⟩
        refine ⟨ret_bool ?_, Kept.refl _ _⟩
        have hle := sgn_le s.wait
        unfold put
        rw [hla]
        by_cases hq : (sgn s.wait).length < s.wait.length
        · have : ¬ (sgn s.wait).length = n := by omega
          simp [h61, hv, hq, this]
        · have : (sgn s.wait).length = n := by omega
          simp [h61, hv, this, hn]
end Go.Proofs.Ytgmbjebighhgkaa
