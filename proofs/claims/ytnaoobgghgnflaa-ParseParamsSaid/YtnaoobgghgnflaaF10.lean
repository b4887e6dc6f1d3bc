/- The parser: data at the front. -/
import Derived.Test.YtnaoobgghgnflaaF9
namespace Go.Proofs.Ytnaoobgghgnflaa
open Go.RowKit Pl
set_option linter.unusedVariables false
set_option linter.unusedSimpArgs false
def stopB (c : Int) : Bool := c == 24 || (c == 26 || (c == 27 || c == 127))
def runN (xs : List Int) : Nat := (xs.takeWhile fun c => !stopB c).length
theorem runN_all : ∀ {xs : List Int}, (∀ x ∈ xs, stopB x = false) → runN xs = xs.length
  | [], _ => rfl
  | x :: xs, h => by
    have ih := runN_all (xs := xs) (fun y hy => h y (by simp [hy]))
    unfold runN at *
    rw [List.takeWhile_cons, h x (by simp)]
    simp only [Bool.not_false, if_true, List.length_cons, ih]
theorem runN_at : ∀ {xs : List Int} {k : Nat} {x : Int}, xs[k]? = some x → stopB x = true → (∀ y ∈ xs.take k, stopB y = false) → runN xs = k
  | [], k, x, h, _, _ => by simp at h
  | y :: ys, 0, x, h, hs, _ => by
    simp at h; subst h
    unfold runN
    rw [List.takeWhile_cons, hs]
    simp
  | y :: ys, k + 1, x, h, hs, hn => by
    have ih := runN_at (xs := ys) (k := k) (x := x) (by simpa using h) hs (fun z hz => hn z (by simp [hz]))
    unfold runN at *
    rw [List.takeWhile_cons, hn y (by simp)]
    simp only [Bool.not_false, if_true, List.length_cons, ih]
theorem runN_le (xs : List Int) : runN xs ≤ xs.length := by
  unfold runN
  exact List.Sublist.length_le (List.takeWhile_sublist _)
theorem not_take (xs : List Int) (k : Nat) (x : Int) (hp : xs[k]? = some x) (h : ∀ y ∈ xs.take k, stopB y = false) (hf : stopB x = false) : ∀ y ∈ xs.take (k + 1), stopB y = false := by
  intro y hy
  rw [List.take_add_one, hp] at hy
  rcases List.mem_append.1 hy with h1 | h1
  · exact h y h1
  · simp at h1; subst h1; exact hf
set_option maxRecDepth 100000 in
set_option maxHeartbeats 8000000 in
theorem stop_any (c : Int) (w : World) : Calls Try.prog 28 #[.int .u8 c] w fun e w' => e = .returned (.bool (stopB c)) ∧ w' = w := by
  obtain ⟨B, hB⟩ : ∃ B, stopB c = B := ⟨_, rfl⟩
  have hB' := hB
  unfold stopB at hB'
  rw [hB]
  clear hB
  cases c0 : (c == 24) with
  | true =>
    obtain rfl : true = B := by rw [← hB', c0]; rfl
    clear hB'
    go_enter Try.func28, Try.ntmps28
    go_wp2
    go_ret
    exact ⟨rfl, rfl⟩
  | false =>
    cases c1 : (c == 26) with
    | true =>
      obtain rfl : true = B := by rw [← hB', c0, c1]; rfl
      clear hB'
      go_enter Try.func28, Try.ntmps28
      go_wp2
      go_ret
      exact ⟨rfl, rfl⟩
    | false =>
      cases c2 : (c == 27) with
      | true =>
        obtain rfl : true = B := by rw [← hB', c0, c1, c2]; rfl
        clear hB'
        go_enter Try.func28, Try.ntmps28
        go_wp2
        go_ret
        exact ⟨rfl, rfl⟩
      | false =>
        cases c3 : (c == 127) with
        | true =>
          obtain rfl : true = B := by rw [← hB', c0, c1, c2, c3]; rfl
          clear hB'
          go_enter Try.func28, Try.ntmps28
          go_wp2
          go_ret
          exact ⟨rfl, rfl⟩
        | false =>
          obtain rfl : false = B := by rw [← hB', c0, c1, c2, c3]; rfl
          clear hB'
          go_enter Try.func28, Try.ntmps28
          go_wp2
          go_ret
          exact ⟨rfl, rfl⟩
set_option maxRecDepth 100000 in
set_option maxHeartbeats 8000000 in
theorem index_any (a : Option Addr) (n cap : Nat) (xs : List Int) (W : World) (hs : SlAt .u8 W a n xs) (hl : n ≤ 1000000) :
    Calls Try.prog 27 #[.slice a n cap, .func (.func 28) #[] #[]] W fun e w' => e = .returned (.int .i64 (if runN xs = n then (-1 : Int) else (runN xs : Int))) ∧ w' = W := by
  have hxl := hs.1
  have HS := Lib.hid (And.intro hs hxl)
  obtain ⟨R, hR⟩ : ∃ R : Int, (if runN xs = n then (-1 : Int) else (runN xs : Int)) = R := ⟨_, rfl⟩
  rw [hR]
  have HR := Lib.hid hR
  clear hs hxl hR
  go_enter Try.func27, Try.ntmps27
  go_wp2
  go_loopg [5, 8] n (fun gg _ kv wr => ∃ k : Nat, n ≤ gg + k ∧ k ≤ n ∧ kv = .int .i64 (k : Int) ∧ (∀ y ∈ xs.take k, stopB y = false) ∧ wr = W)
  case atStart => exact ⟨0, by omega, by omega, rfl, (fun q h => by simp at h), rfl⟩
  case round =>
    obtain ⟨k, hgg, hkn, rfl, hno, rfl⟩ := hrel
    have HK := Lib.hid hno
    by_cases hk1 : k < n
    · have g1 : decide (k < n) = true := decide_eq_true hk1
      have g1' : decide ((k : Int) < (n : Int)) = true := decide_eq_true (by omega)
      have wk : IntKind.i64.wrap ((k : Int) + 1) = (k : Int) + 1 := IntWalk.i64_in _ (by omega)
      obtain ⟨b, off, rfl, hc9⟩ := HS.out.1.2.resolve_left (by omega)
      have hkL : k < xs.length := by rw [HS.out.2]; exact hk1
      obtain ⟨x, hx⟩ : ∃ x, xs[k]? = some x := ⟨_, List.getElem?_eq_getElem hkL⟩
      have hcx := hc9 k hk1
      rw [List.getD_eq_getElem?_getD, hx] at hcx
      simp only [Option.getD_some] at hcx
      have HX := Lib.hid hx
      obtain ⟨bf, hbf⟩ : ∃ bf, stopB x = bf := ⟨_, rfl⟩
      have HBF := Lib.hid hbf
      have HQ := stop_any x wr
      rw [hbf] at HQ
      have HQx := Lib.hid HQ
      clear hc9 hx hkL hbf hno HQ
      cases bf with
      | true =>
        go_wp2_with fail
        refine HQx.out.mono ?_
        rintro e w2 ⟨rfl, rfl⟩
        have hrn : runN xs = k := runN_at HX.out HBF.out HK.out
        have hRk : (k : Int) = R := by rw [← HR.out, hrn, if_neg (by omega)]
        have HRk := Lib.hid hRk
        clear hrn hRk
        go_wp2
        go_ret
        exact ⟨congrArg (fun z => Ending.returned (.int .i64 z)) HRk.out, rfl⟩
      | false =>
        go_wp2_with fail
        refine HQx.out.mono ?_
        rintro e w2 ⟨rfl, rfl⟩
        go_wp2
        go_roundg (gk - 1)
        case rel => exact ⟨k + 1, by omega, by omega, by simp, not_take xs k x HX.out HK.out HBF.out, rfl⟩
        case measure => omega
    · obtain rfl : k = n := by omega
      have g1 : decide (k < k) = false := decide_eq_false hk1
      have hall : xs.take k = xs := List.take_of_length_le (Nat.le_of_eq HS.out.2)
      have hrn : runN xs = k := by rw [← HS.out.2]; exact runN_all (by have h := HK.out; rw [hall] at h; exact h)
      have hRk : (-1 : Int) = R := by rw [← HR.out, if_pos hrn]
      have HRk := Lib.hid hRk
      clear hrn hRk hall hno
      go_wp2
      go_ret
      exact ⟨congrArg (fun z => Ending.returned (.int .i64 z)) HRk.out, rfl⟩
/-- Whether data come at once. -/
def runs (s : PS) : Bool := !s.ends && (s.st == 5 || s.st == 6)
def runE (s : PS) (xs : List Int) : List Ev := if runs s = true ∧ 0 < runN xs then [dataE s (xs.take (runN xs))] else []
def runK (s : PS) (xs : List Int) : Nat := if runs s = true then runN xs else 0
theorem sl_take {w : World} {a : Option Addr} {n : Nat} {xs : List Int} (h : SlAt .u8 w a n xs) (k : Nat) (hk : k ≤ n) : SlAt .u8 w a k (xs.take k) := by
  obtain ⟨h1, h2⟩ := h
  refine ⟨by simp; omega, ?_⟩
  rcases h2 with h2 | ⟨b, off, ha, hc⟩
  · exact .inl (by omega)
  · exact .inr ⟨b, off, ha, fun j hj => by rw [hc j (by omega), List.getD_eq_getElem?_getD, List.getD_eq_getElem?_getD, List.getElem?_take_of_lt hj]⟩
set_option maxRecDepth 100000 in
set_option maxHeartbeats 8000000 in
theorem run_any (G : Nat → Prop) (W : World) (p q : Nat) (s : PS) (L : List Ev) (a : Option Addr) (n cap : Nat) (xs : List Int) (hR : RR G W p q s L) (hs : SlAt .u8 W a n xs) (hnil : a = none → n = 0 ∧ cap = 0) (hl : n ≤ 100000) (hcap : n ≤ cap) (hn0 : 0 < n) (hn : L.length ≤ 400000) :
    Calls Try.prog 24 #[.pointer (some ⟨p, 0, none⟩), .slice a n cap] W fun r w' => r = .returned (.int .i64 (runK s xs : Int)) ∧ TP G W p q s (L ++ runE s xs) w' := by
  have HR := Lib.hid hR
  have HS := Lib.hid hs
  have hxl := hs.1
  obtain ⟨d, vi, vp, vd, vo, Vs, hc, hg⟩ := hR
  obtain ⟨⟨c0, c0f⟩, ⟨c1, c1f⟩, -, -, -, -, -, -, -, -, -, -⟩ := pcells hc.pb
  clear hc hg hs
  cases hen : s.ends with
  | true =>
    rw [hen] at c1
    have hrs : runs s = false := by unfold runs; rw [hen]; rfl
    have e1 : runE s xs = [] := by unfold runE; rw [if_neg (by rw [hrs]; simp)]
    have e2 : runK s xs = 0 := by unfold runK; rw [if_neg (by rw [hrs]; simp)]
    rw [e1, e2]
    clear e1 e2 hrs
    go_enter Try.func24, Try.ntmps24
    go_wp2
    go_ret
    exact ⟨rfl, by rw [List.append_nil]; exact TP.refl HR.out⟩
  | false =>
    rw [hen] at c1
    by_cases h5 : s.st = 5
    · have g5 : (s.st != 5) = false := by simp [h5]
      have hrs : runs s = true := by unfold runs; rw [hen, h5]; rfl
      clear hen h5
      have e2 : runK s xs = runN xs := by unfold runK; rw [if_pos hrs]
      rw [e2]
      obtain ⟨K, hK⟩ : ∃ K, runN xs = K := ⟨_, rfl⟩
      have hKn : K ≤ n := by rw [← hK, ← hxl]; exact runN_le xs
      have HI := index_any a n cap xs W HS.out (by omega)
      rw [hK] at HI
      obtain ⟨RI, hRI⟩ : ∃ R : Int, (if K = n then (-1 : Int) else (K : Int)) = R := ⟨_, rfl⟩
      rw [hRI] at HI
      have HIx := Lib.hid HI
      clear HI
      have gK : ¬ (K : Int) < 0 := by omega
      have gK1 : K ≤ cap := by omega
      by_cases hK0 : 0 < K
      · have e1 : runE s xs = [dataE s (xs.take K)] := by unfold runE; rw [hK, if_pos ⟨hrs, hK0⟩]
        rw [e1, hK]
        have gk0 : decide (0 < K) = true := decide_eq_true hK0
        have gk0' : decide ((0 : Int) < (K : Int)) = true := decide_eq_true (by omega)
        have HD := Lib.hid (data_any G W p q s L a K cap (xs.take K) HR.out (sl_take HS.out K hKn) (fun h => by have := hnil h; omega) (by omega) (by omega))
        by_cases hKe : K = n
        · have hRm : RI = -1 := by rw [← hRI, if_pos hKe]
          subst hRm
          subst hKe
          clear e1 e2 hrs hK hRI hnil
          go_enter Try.func24, Try.ntmps24
          go_wp2_with fail
          refine HIx.out.mono ?_
          rintro r w2 ⟨rfl, rfl⟩
          go_wp2_with fail
          refine HD.out.mono ?_
          rintro r w3 ⟨⟨x, rfl⟩, ht⟩
          have HT := Lib.hid ht
          clear ht
          go_wp2
          go_ret
          exact ⟨rfl, HT.out⟩
        · have hRm : RI = (K : Int) := by rw [← hRI, if_neg hKe]
          subst hRm
          have gl : decide ((K : Int) < 0) = false := decide_eq_false (by omega)
          clear e1 e2 hrs hK hRI hnil hKe
          go_enter Try.func24, Try.ntmps24
          go_wp2_with fail
          refine HIx.out.mono ?_
          rintro r w2 ⟨rfl, rfl⟩
          go_wp2_with fail
          refine HD.out.mono ?_
          rintro r w3 ⟨⟨x, rfl⟩, ht⟩
          have HT := Lib.hid ht
          clear ht
          go_wp2
          go_ret
          exact ⟨rfl, HT.out⟩
      · have hK0' : K = 0 := by omega
        have e1 : runE s xs = [] := by unfold runE; rw [hK, if_neg (fun h => hK0 h.2)]
        rw [e1, hK]
        have hRm : RI = 0 := by rw [← hRI, if_neg (by omega), hK0']; rfl
        subst hRm
        subst hK0'
        clear e1 e2 hrs hK hRI hnil hK0 hn0
        go_enter Try.func24, Try.ntmps24
        go_wp2_with fail
        refine HIx.out.mono ?_
        rintro r w2 ⟨rfl, rfl⟩
        go_wp2
        go_ret
        exact ⟨rfl, by rw [List.append_nil]; exact TP.refl HR.out⟩
    · have g5 : (s.st != 5) = true := by simp [h5]
      by_cases h6 : s.st = 6
      · have g6 : (s.st != 6) = false := by simp [h6]
        have hrs : runs s = true := by unfold runs; rw [hen, h6]; rfl
        clear hen h5 h6
        have e2 : runK s xs = runN xs := by unfold runK; rw [if_pos hrs]
        rw [e2]
        obtain ⟨K, hK⟩ : ∃ K, runN xs = K := ⟨_, rfl⟩
        have hKn : K ≤ n := by rw [← hK, ← hxl]; exact runN_le xs
        have HI := index_any a n cap xs W HS.out (by omega)
        rw [hK] at HI
        obtain ⟨RI, hRI⟩ : ∃ R : Int, (if K = n then (-1 : Int) else (K : Int)) = R := ⟨_, rfl⟩
        rw [hRI] at HI
        have HIx := Lib.hid HI
        clear HI
        have gK : ¬ (K : Int) < 0 := by omega
        have gK1 : K ≤ cap := by omega
        by_cases hK0 : 0 < K
        · have e1 : runE s xs = [dataE s (xs.take K)] := by unfold runE; rw [hK, if_pos ⟨hrs, hK0⟩]
          rw [e1, hK]
          have gk0 : decide (0 < K) = true := decide_eq_true hK0
          have gk0' : decide ((0 : Int) < (K : Int)) = true := decide_eq_true (by omega)
          have HD := Lib.hid (data_any G W p q s L a K cap (xs.take K) HR.out (sl_take HS.out K hKn) (fun h => by have := hnil h; omega) (by omega) (by omega))
          by_cases hKe : K = n
          · have hRm : RI = -1 := by rw [← hRI, if_pos hKe]
            subst hRm
            subst hKe
            clear e1 e2 hrs hK hRI hnil
            go_enter Try.func24, Try.ntmps24
            go_wp2_with fail
            refine HIx.out.mono ?_
            rintro r w2 ⟨rfl, rfl⟩
            go_wp2_with fail
            refine HD.out.mono ?_
            rintro r w3 ⟨⟨x, rfl⟩, ht⟩
            have HT := Lib.hid ht
            clear ht
            go_wp2
            go_ret
            exact ⟨rfl, HT.out⟩
          · have hRm : RI = (K : Int) := by rw [← hRI, if_neg hKe]
            subst hRm
            have gl : decide ((K : Int) < 0) = false := decide_eq_false (by omega)
            clear e1 e2 hrs hK hRI hnil hKe
            go_enter Try.func24, Try.ntmps24
            go_wp2_with fail
            refine HIx.out.mono ?_
            rintro r w2 ⟨rfl, rfl⟩
            go_wp2_with fail
            refine HD.out.mono ?_
            rintro r w3 ⟨⟨x, rfl⟩, ht⟩
            have HT := Lib.hid ht
            clear ht
            go_wp2
            go_ret
            exact ⟨rfl, HT.out⟩
        · have hK0' : K = 0 := by omega
          have e1 : runE s xs = [] := by unfold runE; rw [hK, if_neg (fun h => hK0 h.2)]
          rw [e1, hK]
          have hRm : RI = 0 := by rw [← hRI, if_neg (by omega), hK0']; rfl
          subst hRm
          subst hK0'
          clear e1 e2 hrs hK hRI hnil hK0 hn0
          go_enter Try.func24, Try.ntmps24
          go_wp2_with fail
          refine HIx.out.mono ?_
          rintro r w2 ⟨rfl, rfl⟩
          go_wp2
          go_ret
          exact ⟨rfl, by rw [List.append_nil]; exact TP.refl HR.out⟩
      · have g6 : (s.st != 6) = true := by simp [h6]
        have hrs : runs s = false := by unfold runs; simp [h5, h6]
        clear hen h5 h6
        have e1 : runE s xs = [] := by unfold runE; rw [if_neg (by rw [hrs]; simp)]
        have e2 : runK s xs = 0 := by unfold runK; rw [if_neg (by rw [hrs]; simp)]
        rw [e1, e2]
        clear e1 e2 hrs
        go_enter Try.func24, Try.ntmps24
        go_wp2
        go_ret
        exact ⟨rfl, by rw [List.append_nil]; exact TP.refl HR.out⟩
end Go.Proofs.Ytnaoobgghgnflaa
