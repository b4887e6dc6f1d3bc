/- The law of pops, walked. -/
import Derived.Test.YtdfenlonlpjkfaaLib
import Derived.Test.YtdfenlonlpjkfaaLLast
namespace Go.Proofs.Ytdfenlonlpjkfaa
open Go.RowKit
set_option linter.unusedVariables false
set_option linter.unusedSimpArgs false
/-- m numbers of l from k on, as values. -/
def tailV (l : List Int) (k m : Nat) : List Value := (List.range m).map fun j => .int .i64 (l.getD (k + j) 0)
theorem tailV_length (l : List Int) (k m : Nat) : (tailV l k m).length = m := by simp [tailV]
theorem tailV_get (l : List Int) (k m j : Nat) (h : j < m) : (tailV l k m)[j]? = some (.int .i64 (l.getD (k + j) 0)) := by simp [tailV, h]
theorem tailV_take (l : List Int) (k m j : Nat) (h : j ≤ m) : (tailV l k m).take j = tailV l k j := by
  unfold tailV
  rw [← List.map_take, List.take_range, Nat.min_eq_left h]
theorem tailV_one (l : List Int) (k m : Nat) : ∀ u ∈ tailV l k m, u.oneCell' = true := by
  intro u hu
  simp only [tailV, List.mem_map, List.mem_range] at hu
  obtain ⟨j, -, rfl⟩ := hu
  rfl
theorem last_rot {l : List Int} {most i : Nat} {xs : List Value} {at' : Nat} (h : Last l most i xs at') : (at' = 0 ∨ at' < xs.length ∨ xs = []) ∧ xs.drop at' ++ xs.take at' = tailV l (i - min i most) (min i most) := by
  obtain ⟨h1, h2, h3, h4⟩ := h
  obtain ⟨m, hm⟩ : ∃ m, min i most = m := ⟨_, rfl⟩
  rw [hm] at h1 h4 ⊢
  by_cases h0 : m = 0
  · have : xs = [] := List.eq_nil_of_length_eq_zero (by omega)
    subst this
    rw [h0]
    exact ⟨.inr (.inr rfl), by simp [tailV]⟩
  · have ha : at' < m := by
      rcases Nat.lt_or_ge i most with h9 | h9
      · rw [h2 (by omega)]; omega
      · have := h3 (by omega); omega
    refine ⟨.inr (.inl (by omega)), ?_⟩
    apply List.ext_getElem?
    intro j
    by_cases hj : j < m
    · rw [tailV_get _ _ _ _ hj, ← h4 j hj, mod_two ha hj]
      split
      · rename_i h9
        rw [List.getElem?_append_left (by simp; omega), List.getElem?_drop]
      · rename_i h9
        rw [List.getElem?_append_right (by simp; omega), List.length_drop, List.getElem?_take, if_pos (by omega)]
        congr 1; omega
    · rw [List.getElem?_eq_none (by simp; omega), List.getElem?_eq_none (by rw [tailV_length]; omega)]
theorem mem_rot {xs : List Value} {at' : Nat} {P : Value → Prop} (h : ∀ u ∈ xs.drop at' ++ xs.take at', P u) : ∀ u ∈ xs, P u := by
  intro u hu
  apply h
  rw [← List.take_append_drop at' xs] at hu
  rcases List.mem_append.1 hu with h | h
  · exact List.mem_append_right _ h
  · exact List.mem_append_left _ h
/-- A pop, by what is there in order. -/
theorem pop_tail (l : List Int) (q most at' gone k m : Nat) (xs : List Value) (o : Option Nat) (w : World) (h : RAt 48 3 w q most at' gone xs o) (hm : m + 1 ≤ 65536) (ha : at' = 0 ∨ at' < xs.length ∨ xs = []) (hr : xs.drop at' ++ xs.take at' = tailV l k (m + 1)) :
    Calls Try.prog 12 #[.pointer (some ⟨q, 0, none⟩)] w fun e w' => e = .returned (.tuple #[.int .i64 (l.getD (k + m) 0), .bool true]) ∧ ∃ o', RAt 48 3 w' q most 0 gone (tailV l k m) o' ∧ Ext w q o o' w' := by
  have hl : xs.length = m + 1 := by have := congrArg List.length hr; rw [tailV_length] at this; simp at this; omega
  have hne : xs ≠ [] := fun e => by rw [e] at hl; simp at hl
  have h1 : ∀ u ∈ xs, u.oneCell' = true := mem_rot (at' := at') (by rw [hr]; exact tailV_one _ _ _)
  have := pop_some q most at' gone xs o (l.getD (k + m) 0) w h (by rcases ha with h | h | h; omega; exact h; exact absurd h hne) (by omega) h1 (by rw [hr, hl]; exact tailV_get _ _ _ _ (by omega))
  rw [hr, hl, show m + 1 - 1 = m by omega, tailV_take _ _ _ _ (by omega)] at this
  exact this

set_option maxRecDepth 100000 in
set_option maxHeartbeats 4000000 in
theorem pops_near (most : Nat) (l : List Int) (a : Option Addr) (len cap : Nat) (w : World) (hs : SlAt .i64 w a len l) (hl : len ≤ 300) (hm : most ≤ 65536) : Calls Try.prog 4 #[.int .i64 most, .slice a len cap] w fun e w' => e = .returned (.bool true) ∧ Kept (fun _ => False) w w' := by
  have g0 : decide ((300 : Int) < (len : Int)) = false := decide_eq_false (by omega)
  have g1 : decide ((most : Int) < 0) = false := decide_eq_false (by omega)
  have g2 : decide (65536 < (most : Int)) = false := decide_eq_false (by omega)
  have HS := Lib.hid hs
  clear hs
  go_enter Try.func4, Try.ntmps4
  go_wp2_with fail
  refine (known_any _).mono ?_; rintro e w1 ⟨rfl, hk⟩
  have K1 := Lib.hid hk
  clear hk
  go_wp2_with fail
  refine (inew_yes most _ hm).mono ?_; rintro e w2 ⟨rfl, hr, hk⟩
  have K2 := Lib.hid (K1.out.then hk)
  obtain ⟨q, hq⟩ : ∃ q, w1.heap.size = q := ⟨_, rfl⟩
  have hqw : w.heap.size ≤ q := by have := K1.out.size; omega
  rw [hq] at hr ⊢
  have HR := Lib.hid hr
  clear hr hk hq g0 g1 g2
  go_wp2
  go_loopg [7] len (fun gg iv wr => ∃ (i at' : Nat) (xs : List Value) (o : Option Nat), len ≤ gg + i ∧ i ≤ len ∧ iv = .int .i64 (i : Int) ∧ RAt 48 3 wr q most at' (i - min i most) xs o ∧ Last l most i xs at' ∧ Kept (fun _ => False) w wr ∧ ∀ b, o = some b → w.heap.size ≤ b)
  case atStart => exact ⟨0, 0, [], none, by omega, by omega, rfl, by rw [Nat.zero_sub]; exact HR.out, last_0 l most, K2.out, fun b h => by cases h⟩
  case round =>
    obtain ⟨i, at', xs, o, hgg, hil, rfl, hr, hlast, hk, ho⟩ := hrel
    by_cases hi : i < len
    · have gi : decide (i < len) = true := decide_eq_true hi
      obtain ⟨b, off, rfl, hc⟩ := (HS.out.kept hk (fun _ _ _ _ => id)).2.resolve_left (by omega)
      have hci := hc i hi
      have hq0 : q < wr.heap.size := hr.lt.1
      have HP := Lib.hid (push_last l most i q _ at' xs o wr rfl hr hlast hm (by omega))
      obtain ⟨t, ht⟩ : ∃ t, l.getD i 0 = t := ⟨_, rfl⟩
      rw [ht] at hci HP
      obtain ⟨z1, hz1⟩ : ∃ z : Int, (if most ≤ i then l.getD (i - min i most) 0 else 0) = z := ⟨_, rfl⟩
      obtain ⟨z2, hz2⟩ : ∃ z : Bool, decide (most ≤ i) = z := ⟨_, rfl⟩
      rw [hz1, hz2] at HP
      clear hz1 hz2
      have HK := Lib.hid hk
      have HO := Lib.hid ho
      have w1' : IntKind.i64.wrap ((i : Int) + 1) = (i : Int) + 1 := IntWalk.i64_in _ (by omega)
      have li : (i : Int) < (len : Int) := by omega
      clear hk ho hc hr hlast ht
      go_wp2_with fail
      refine HP.out.mono ?_; rintro e w3 ⟨at2, xs2, o2, rfl, hr3, hl3, k3⟩
      have KK := Lib.hid (HK.out.trans (k3.1.mono fun j hj hs => hs.elim (fun h => Or.inr (by omega)) (fun h => Or.inr (HO.out j h))))
      have HR3 := Lib.hid hr3
      have HL3 := Lib.hid hl3
      have HO3 := Lib.hid (show ∀ b, o2 = some b → w.heap.size ≤ b from fun b hb => by
        rcases k3.2 with h | ⟨c, h, h2⟩
        · exact HO.out b (by rw [← h, hb])
        · rw [hb] at h; cases h; omega)
      clear hr3 hl3 k3 hci
      go_wp2
      go_roundg (gk - 1)
      case rel => exact ⟨i + 1, at2, xs2, o2, by omega, by omega, by go_num, HR3.out, HL3.out, KK.out, HO3.out⟩
      case measure => omega
    · obtain rfl : i = len := by omega
      have gi : decide (i < i) = false := decide_eq_false (by omega)
      obtain ⟨m, hm'⟩ : ∃ m, min i most = m := ⟨_, rfl⟩
      obtain ⟨hat, hrot⟩ := last_rot hlast
      rw [hm'] at hrot hr
      have hmi : m ≤ i := by omega
      obtain ⟨n, hn⟩ : ∃ n, i - m = n := ⟨_, rfl⟩
      rw [hn] at hrot hr
      have HR := Lib.hid hr
      have HK := Lib.hid hk
      have HO := Lib.hid ho
      have HAT := Lib.hid hat
      have HRT := Lib.hid hrot
      have HNM := Lib.hid (show n + m = i by omega)
      have HMM := Lib.hid hm'
      clear hr hlast hk ho hgg hil hat hrot hn hm'
      have hcase : (decide (most < i) = true ∧ most = m) ∨ (decide (most < i) = false ∧ i = m) := by
        have := HMM.out
        by_cases h : most < i
        · exact .inl ⟨decide_eq_true h, by omega⟩
        · exact .inr ⟨decide_eq_false h, by omega⟩
      have HLOOP : ∀ (a : Option Addr) (wr : World), True := fun _ _ => trivial
      rcases hcase with ⟨gm, hmm⟩ | ⟨gm, hmm⟩
      · subst hmm
        go_wp2
        go_loopg [9, 10, 11] most (fun gg jv _ _ wx => ∃ (j at2 : Nat) (xs2 : List Value) (o2 : Option Nat), most ≤ gg + j ∧ j ≤ most ∧ jv = .int .i64 (j : Int) ∧ RAt 48 3 wx q most at2 n xs2 o2 ∧ (at2 = 0 ∨ at2 < xs2.length ∨ xs2 = []) ∧ xs2.drop at2 ++ xs2.take at2 = tailV l n (most - j) ∧ Kept (fun _ => False) w wx ∧ ∀ b, o2 = some b → w.heap.size ≤ b)
        case atStart => exact ⟨0, at', xs, o, by omega, by omega, rfl, HR.out, HAT.out, HRT.out, HK.out, HO.out⟩
        case round =>
          obtain ⟨j, at2, xs2, o2, hgj, hjm, rfl, hr2, hat2, hrot2, hk2, ho2⟩ := hrel
          by_cases hj : j < most
          · have gj : decide (j < most) = true := decide_eq_true hj
            have hq0 : q < wr.heap.size := hr2.lt.1
            obtain ⟨d, hd⟩ : ∃ d, most - j = d + 1 := ⟨most - j - 1, by omega⟩
            rw [hd] at hrot2
            obtain ⟨t, ht⟩ : ∃ t, l.getD (n + d) 0 = t := ⟨_, rfl⟩
            have HP := Lib.hid (pop_tail l q most at2 n n d xs2 o2 wr hr2 (by omega) hat2 hrot2)
            rw [ht] at HP
            have hlen := HNM.out
            have HK2 := Lib.hid hk2
            have HO2 := Lib.hid ho2
            have w1' : IntKind.i64.wrap ((j : Int) + 1) = (j : Int) + 1 := IntWalk.i64_in _ (by omega)
            have w2' : IntKind.i64.wrap ((i : Int) - 1) = (i : Int) - 1 := IntWalk.i64_in _ (by omega)
            have w3' : IntKind.i64.wrap ((i : Int) - 1 - (j : Int)) = (i : Int) - 1 - (j : Int) := IntWalk.i64_in _ (by omega)
            have w4' : (i : Int) - 1 - (j : Int) = ((n + d : Nat) : Int) := by omega
            have l1 : n + d < i := by omega
            have l2 : ((n + d : Nat) : Int) < (i : Int) := by omega
            have l3 : (n : Int) + (d : Int) < (i : Int) := by omega
            have l4 : 0 ≤ (n : Int) + (d : Int) := by omega
            have t1 : ((n : Int) + (d : Int)).toNat = n + d := by omega
            clear hr2 hat2 hrot2 hk2 ho2
            go_wp2_with fail
            refine HP.out.mono ?_; rintro e w3 ⟨rfl, o3, hr3, k3⟩
            have KK := Lib.hid (HK2.out.trans (k3.1.mono fun j hj hs => hs.elim (fun h => Or.inr (by omega)) (fun h => Or.inr (HO2.out j h))))
            have HR3 := Lib.hid hr3
            have HO3 := Lib.hid (show ∀ b, o3 = some b → w.heap.size ≤ b from fun b hb => by
              rcases k3.2 with h | ⟨c, h, h2⟩
              · exact HO2.out b (by rw [← h, hb])
              · rw [hb] at h; cases h; omega)
            obtain ⟨b, off, rfl, hc⟩ := (HS.out.kept KK.out (fun _ _ _ _ => id)).2.resolve_left (by omega)
            have hcn := hc (n + d) l1
            rw [ht] at hcn
            have HD := Lib.hid (show most - (j + 1) = d by omega)
            clear hr3 k3 hc ht hlen hd
            go_wp2
            go_roundg (gk - 1)
            case rel => exact ⟨j + 1, 0, _, o3, by omega, by omega, by go_num, HR3.out, .inl rfl, by rw [HD.out]; simp, KK.out, HO3.out⟩
            case measure => omega
          · have gj : decide (j < most) = false := decide_eq_false hj
            have hx0 : xs2 = [] := by
              have := congrArg List.length hrot2
              rw [List.length_append, List.length_drop, List.length_take, tailV_length] at this
              exact List.eq_nil_of_length_eq_zero (by omega)
            subst hx0
            have HR2 := Lib.hid hr2
            have HK2 := Lib.hid hk2
            have hlen := HNM.out
            have hsub : (i : Int) - (most : Int) = (n : Int) := by omega
            have wi : IntKind.i64.wrap (n : Int) = (n : Int) := IntWalk.i64_in _ (by omega)
            clear hr2 hat2 hrot2 hk2 ho2
            go_wp2_with fail
            refine (pop_none q most at2 n o2 _ HR2.out).mono ?_; rintro e w4 ⟨rfl, rfl⟩
            go_wp2_with fail
            refine (ilen_any q most at2 n [] o2 _ HR2.out).mono ?_; rintro e w5 ⟨rfl, rfl⟩
            go_wp2_with fail
            refine (igone_any q most at2 n [] o2 _ HR2.out).mono ?_; rintro e w6 ⟨rfl, rfl⟩
            go_wp2
            go_ret
            exact ⟨rfl, HK2.out⟩
      · obtain rfl : m = i := hmm.symm
        go_wp2
        go_loopg [9, 10, 11] m (fun gg jv _ _ wx => ∃ (j at2 : Nat) (xs2 : List Value) (o2 : Option Nat), m ≤ gg + j ∧ j ≤ m ∧ jv = .int .i64 (j : Int) ∧ RAt 48 3 wx q most at2 n xs2 o2 ∧ (at2 = 0 ∨ at2 < xs2.length ∨ xs2 = []) ∧ xs2.drop at2 ++ xs2.take at2 = tailV l n (m - j) ∧ Kept (fun _ => False) w wx ∧ ∀ b, o2 = some b → w.heap.size ≤ b)
        case atStart => exact ⟨0, at', xs, o, by omega, by omega, rfl, HR.out, HAT.out, HRT.out, HK.out, HO.out⟩
        case round =>
          obtain ⟨j, at2, xs2, o2, hgj, hjm, rfl, hr2, hat2, hrot2, hk2, ho2⟩ := hrel
          by_cases hj : j < m
          · have gj : decide (j < m) = true := decide_eq_true hj
            have hq0 : q < wr.heap.size := hr2.lt.1
            obtain ⟨d, hd⟩ : ∃ d, m - j = d + 1 := ⟨m - j - 1, by omega⟩
            rw [hd] at hrot2
            obtain ⟨t, ht⟩ : ∃ t, l.getD (n + d) 0 = t := ⟨_, rfl⟩
            have HP := Lib.hid (pop_tail l q most at2 n n d xs2 o2 wr hr2 (by omega) hat2 hrot2)
            rw [ht] at HP
            have hlen := HNM.out
            have HK2 := Lib.hid hk2
            have HO2 := Lib.hid ho2
            have w1' : IntKind.i64.wrap ((j : Int) + 1) = (j : Int) + 1 := IntWalk.i64_in _ (by omega)
            have w2' : IntKind.i64.wrap ((m : Int) - 1) = (m : Int) - 1 := IntWalk.i64_in _ (by omega)
            have w3' : IntKind.i64.wrap ((m : Int) - 1 - (j : Int)) = (m : Int) - 1 - (j : Int) := IntWalk.i64_in _ (by omega)
            have w4' : (m : Int) - 1 - (j : Int) = ((n + d : Nat) : Int) := by omega
            have l1 : n + d < m := by omega
            have l2 : ((n + d : Nat) : Int) < (m : Int) := by omega
            have l3 : (n : Int) + (d : Int) < (m : Int) := by omega
            have l4 : 0 ≤ (n : Int) + (d : Int) := by omega
            have t1 : ((n : Int) + (d : Int)).toNat = n + d := by omega
            clear hr2 hat2 hrot2 hk2 ho2
            go_wp2_with fail
            refine HP.out.mono ?_; rintro e w3 ⟨rfl, o3, hr3, k3⟩
            have KK := Lib.hid (HK2.out.trans (k3.1.mono fun j hj hs => hs.elim (fun h => Or.inr (by omega)) (fun h => Or.inr (HO2.out j h))))
            have HR3 := Lib.hid hr3
            have HO3 := Lib.hid (show ∀ b, o3 = some b → w.heap.size ≤ b from fun b hb => by
              rcases k3.2 with h | ⟨c, h, h2⟩
              · exact HO2.out b (by rw [← h, hb])
              · rw [hb] at h; cases h; omega)
            obtain ⟨b, off, rfl, hc⟩ := (HS.out.kept KK.out (fun _ _ _ _ => id)).2.resolve_left (by omega)
            have hcn := hc (n + d) l1
            rw [ht] at hcn
            have HD := Lib.hid (show m - (j + 1) = d by omega)
            clear hr3 k3 hc ht hlen hd
            go_wp2
            go_roundg (gk - 1)
            case rel => exact ⟨j + 1, 0, _, o3, by omega, by omega, by go_num, HR3.out, .inl rfl, by rw [HD.out]; simp, KK.out, HO3.out⟩
            case measure => omega
          · have gj : decide (j < m) = false := decide_eq_false hj
            have hx0 : xs2 = [] := by
              have := congrArg List.length hrot2
              rw [List.length_append, List.length_drop, List.length_take, tailV_length] at this
              exact List.eq_nil_of_length_eq_zero (by omega)
            subst hx0
            have HR2 := Lib.hid hr2
            have HK2 := Lib.hid hk2
            have hlen := HNM.out
            have hsub : (m : Int) - (m : Int) = (n : Int) := by omega
            have wi : IntKind.i64.wrap (n : Int) = (n : Int) := IntWalk.i64_in _ (by omega)
            clear hr2 hat2 hrot2 hk2 ho2
            go_wp2_with fail
            refine (pop_none q most at2 n o2 _ HR2.out).mono ?_; rintro e w4 ⟨rfl, rfl⟩
            go_wp2_with fail
            refine (ilen_any q most at2 n [] o2 _ HR2.out).mono ?_; rintro e w5 ⟨rfl, rfl⟩
            go_wp2_with fail
            refine (igone_any q most at2 n [] o2 _ HR2.out).mono ?_; rintro e w6 ⟨rfl, rfl⟩
            go_wp2
            go_ret
            exact ⟨rfl, HK2.out⟩
theorem law_pops {a0 : Int} {a : Option Addr} {len cap : Nat} {z : List Int} {w : World} (f0 : (Lit.int .i64 a0).wf = true) (f1 : IsRow .i64 w a len cap z) :
    Calls Try.prog 4 #[.int .i64 a0, .slice a len cap] w fun e w' => e = .returned (.bool true) ∧ Below w.heap.size w w' := by
  refine Calls.mono (R := fun e w' => e = .returned (.bool true) ∧ Kept (fun _ => False) w w') ?_ fun _ _ h => ⟨h.1, h.2.below⟩
  by_cases h : 300 < len ∨ a0 < 0 ∨ 65536 < a0
  · exact pops_early a0 a len cap w h
  · obtain ⟨m, rfl⟩ : ∃ m : Nat, a0 = m := ⟨a0.toNat, by omega⟩
    exact pops_near m (z.take len) a len cap w f1.slAt.1 (by omega) (by omega)

end Go.Proofs.Ytdfenlonlpjkfaa
