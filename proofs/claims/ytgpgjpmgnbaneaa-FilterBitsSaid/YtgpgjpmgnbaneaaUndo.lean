/- A filter undone, and done: both functions. -/
import Derived.Test.YtgpgjpmgnbaneaaGuess
import Derived.Test.YtgpgjpmgnbaneaaSamp
import Derived.Deep.RegionWith
import Derived.Deep.DrawnRows
namespace Go.Proofs.Ytgpgjpmgnbaneaa
open Go.RowKit Pl
set_option linter.unusedVariables false
attribute [local go_sem ↓] Go.wp_at_zero Go.wp_at_succ
theorem set_drop (A xs : List Int) (v : Int) (h : A.length < xs.length) : (A ++ xs.drop A.length).set A.length v = (A ++ [v]) ++ xs.drop (A.length + 1) := by
  rw [List.set_append_right _ _ (Nat.le_refl _), Nat.sub_self, List.drop_eq_getElem_cons h, List.set_cons_zero, List.append_assoc, List.singleton_append]
theorem Own.some {k : IntKind} {e : TypeId} {w : World} {a : Option Addr} {n cap : Nat} {xs : List Int} (h : Own k e w (.slice a n cap) xs) (hn : 0 < n) : ∃ g, a = some ⟨g, 0, none⟩ := by
  obtain ⟨h1, h2⟩ := h
  rcases h2 with ⟨h3, h4⟩ | ⟨g, cap', cur, h3, -⟩
  · cases h3; omega
  · cases h3; exact ⟨g, rfl⟩
theorem Own.retag {k : IntKind} {e : TypeId} {w : World} {v : Value} {xs ys : List Int} (h : Own k e w v xs) (hy : ys = xs) : Own k e w v ys := hy ▸ h
def resU (kind : Int) (row ahead : List Int) (step : Int) : List Int := if chkB kind row.length ahead.length step then undoL kind row ahead step.toNat row.length else []
def resD (kind : Int) (row ahead : List Int) (step : Int) : List Int := if chkB kind row.length ahead.length step then doL kind row ahead step.toNat row.length else []
def codeU (kind : Int) (l1 l2 : Nat) (step : Int) : Int := if chkB kind l1 l2 step then 0 else 1
set_option maxRecDepth 100000 in
set_option maxHeartbeats 1000000 in
theorem undo_no (kind step : Int) (ra aa : Option Addr) (rl rc al ac : Nat) (w : World) (hc : chkB kind rl al step = false) :
    Calls Try.prog 19 #[.int .i64 kind, .slice ra rl rc, .slice aa al ac, .int .i64 step] w fun e w' => e = .returned (.tuple #[.slice none 0 0, .int .i64 1]) ∧ w = w' := by
  go_enter Try.func19, Try.ntmps19
  go_wp2_with (go_at_call 27; refine (check_any _ _ _ _ _ _ _ _ _).mono ?_; rintro e w' ⟨rfl, rfl⟩)
  go_ret2
  exact ⟨rfl, rfl⟩
set_option maxRecDepth 100000 in
set_option maxHeartbeats 4000000 in
theorem undo_yes (kind : Int) (step : Nat) (ra aa : Option Addr) (rl rc al ac : Nat) (xs ys : List Int) (w : World) (hs : SlAt .u8 w ra rl xs) (hn : ra = none → rl = 0 ∧ rc = 0) (ha : SlAt .u8 w aa al ys) (hl : rl ≤ 2048) (hbx : Pl.Bytes xs) (hby : Pl.Bytes ys) (hc : chkB kind rl al step = true) :
    Calls Try.prog 19 #[.int .i64 kind, .slice ra rl rc, .slice aa al ac, .int .i64 step] w fun e w' => ∃ v, e = .returned (.tuple #[v, .int .i64 0]) ∧ Own .u8 5 w' v (undoL kind xs ys step rl) ∧ Kept (fun _ => False) w w' ∧ ∀ b, v.ownBlock = some b → w.heap.size ≤ b := by
  have hcc := of_decide_eq_true hc
  have hxl := hs.1
  have HS := Lib.hid hs
  have HA := Lib.hid ha
  have h1 : 1 ≤ step := by omega
  have h8 : step ≤ 8 := by omega
  have hal : al = 0 ∨ al = rl := hcc.2.2.2.2
  clear hs ha hcc
  go_enter Try.func19, Try.ntmps19
  go_wp2_with (go_at_call 27; refine (check_any _ _ _ _ _ _ _ _ _).mono ?_; rintro e w' ⟨rfl, rfl⟩)
  refine (clone_any _ _ _ xs _ HS.out hn (by omega)).mono ?_
  rintro e w1 ⟨v, rfl, ho1, hk1, hf1⟩
  obtain ⟨a', cap, rfl, -⟩ := ho1.shape
  rw [hxl] at ho1 hf1 ⊢
  have HO1 := Lib.hid ho1
  have HF1 := Lib.hid hf1
  have HXL := Lib.hid hxl
  clear ho1 hf1 hxl
  go_wp2
  go_loopw [22] (fun i wr => ∃ k : Nat, k ≤ rl ∧ i = .int .i64 k ∧ Own .u8 5 wr (.slice a' rl cap) (undoL kind xs ys step k ++ xs.drop k) ∧ Kept (fun _ => False) w wr) (fun i _ => rl - (intOf i).toNat)
  case atStart => exact ⟨0, by omega, rfl, by simpa [undoL] using HO1.out, hk1⟩
  case round =>
    obtain ⟨k, hk, rfl, ho, hkr⟩ := hrel
    have HO := Lib.hid ho
    by_cases hkn : k < rl
    · obtain ⟨g, rfl⟩ := ho.some (by omega)
      obtain ⟨-, -, hglt, hyc, hyf⟩ := ho.at
      have hsl := ho.slAt
      have hyk := hyc k hkn
      have hfk := hyf k
      have hgw : w.heap.size ≤ g := HF1.out g rfl
      rw [getD_right (by rw [undoL_length]; exact Nat.le_refl _), undoL_length, Nat.sub_self, show (xs.drop k).getD 0 0 = xs.getD k 0 by simp [List.getD_eq_getElem?_getD]] at hyk
      have hby0 := getB hbx k
      have hset := set_drop (undoL kind xs ys step k) xs ((xs.getD k 0 + gAt kind (undoL kind xs ys step k) ys step k) % 256) (by rw [undoL_length, HXL.out]; exact hkn)
      rw [undoL_length] at hset
      have hbl : Pl.Bytes (undoL kind xs ys step k ++ xs.drop k) := fun n hn => by
        rcases List.mem_append.1 hn with h | h
        · exact undoL_bytes _ _ _ _ _ n h
        · exact hbx n (List.mem_of_mem_drop h)
      have hga := gAt_congr (kind := kind) (p := undoL kind xs ys step k ++ xs.drop k) (q := undoL kind xs ys step k) (ahead := ys) (i := k) h1 (fun j hj => getD_left (by rw [undoL_length]; exact hj))
      have hgb := gAt_byte (kind := kind) (undoL_bytes kind xs ys step k) hby step k
      have hsd := hsl.kept ((Kept.refl (fun _ => False) wr).drew) (fun _ _ _ _ => id)
      have had := (HA.out.kept hkr (fun _ _ _ _ => id)).kept ((Kept.refl (fun _ => False) wr).drew) (fun _ _ _ _ => id)
      have hcall := guess_any kind k step (some ⟨g, 0, none⟩) aa rl cap al ac _ ys wr.drew hsd had hkn h1 h8 hal hl hbl hby
      rw [hga] at hcall
      obtain ⟨q, hq⟩ : ∃ q, gAt kind (undoL kind xs ys step k) ys step k = q := ⟨_, rfl⟩
      rw [hq] at hgb hcall hset
      obtain ⟨x, hx⟩ : ∃ x, xs.getD k 0 = x := ⟨_, rfl⟩
      rw [hx] at hyk hset hby0
      unfold Bt at hby0
      have hwr : IntKind.u8.wrap (x + q) = (x + q) % 256 := IntKind.wrap_u8 _
      have hlk : undoL kind xs ys step (k + 1) = undoL kind xs ys step k ++ [(x + q) % 256] := by simp only [undoL]; rw [hx, hq]
      rw [← hlk] at hset
      obtain ⟨u, hu⟩ : ∃ u, (x + q) % 256 = u := ⟨_, rfl⟩
      rw [hu] at hwr hset
      have HSET := Lib.hid hset
      have HC := Lib.hid hcall
      have HKN := Lib.hid hkn
      have s5 : (0 : Int) ≤ (k : Int) := by omega
      have s6 : (k : Int) < (rl : Int) := by omega
      have hod := HO.out.kept ((Kept.refl (fun _ => False) wr).drew) (fun _ _ => id)
      have HOD := Lib.hid hod
      have HKD := Lib.hid hkr.drew
      have HKR := Lib.hid hkr
      have hgz : g < wr.heap.size := hglt
      clear ho hyc hyf hsl hset hcall hq hx hu hlk hod hgb hglt hkr hbl hga hsd had
      go_wp2
      go_region_with (go_at_call 29; refine HC.out.mono ?_; rintro e w4 ⟨rfl, hk4⟩; have HO4 := Lib.hid (HOD.out.kept hk4 (fun _ _ => id)); have y4 := hk4.cell (show wr.drew.cell? ⟨g, k, none⟩ = some (.int .u8 x) from hyk) id; have f4 := (HO4.out.at).2.2.2.2 k)
      all_goals go_wp2
      all_goals
        go_roundw
        case rel =>
          have h9 := HO4.out.set HKN.out u
          refine ⟨k + 1, by omega, by go_num, h9.retag HSET.out.symm, ?_⟩
          exact (HKD.out.then hk4).setCell (p := ⟨g, k, none⟩) (.inr hgw) _
        case measure => simp [intOf]; omega
    · obtain rfl : k = rl := by omega
      clear ho
      go_wp2
      go_ret2
      refine ⟨_, rfl, HO.out.retag ?_, hkr, HF1.out⟩
      rw [List.drop_of_length_le (by have := HXL.out; omega), List.append_nil]
theorem undo_any (kind step : Int) (ra aa : Option Addr) (rl rc al ac : Nat) (xs ys : List Int) (w : World) (hs : SlAt .u8 w ra rl xs) (hn : ra = none → rl = 0 ∧ rc = 0) (ha : SlAt .u8 w aa al ys) (hl : rl ≤ 2048) (hbx : Pl.Bytes xs) (hby : Pl.Bytes ys) :
    Calls Try.prog 19 #[.int .i64 kind, .slice ra rl rc, .slice aa al ac, .int .i64 step] w fun e w' => ∃ v, e = .returned (.tuple #[v, .int .i64 (codeU kind rl al step)]) ∧ Own .u8 5 w' v (resU kind xs ys step) ∧ Kept (fun _ => False) w w' ∧ ∀ b, v.ownBlock = some b → w.heap.size ≤ b := by
  have h1 := hs.1
  have h2 := ha.1
  by_cases hc : chkB kind rl al step = true
  · have hcc := of_decide_eq_true hc
    obtain ⟨st, rfl⟩ : ∃ st : Nat, step = st := ⟨step.toNat, by omega⟩
    unfold codeU resU
    rw [h1, h2, if_pos hc, if_pos hc]
    exact undo_yes kind st ra aa rl rc al ac xs ys w hs hn ha hl hbx hby hc
  · have hf := Bool.eq_false_iff.2 hc
    unfold codeU resU
    rw [h1, h2, if_neg hc, if_neg hc]
    refine (undo_no kind step ra aa rl rc al ac w hf).mono ?_
    rintro e w' ⟨rfl, rfl⟩
    exact ⟨_, rfl, Own.nil _ _ _, Kept.refl _ _, fun b h => by cases h⟩
set_option maxRecDepth 100000 in
set_option maxHeartbeats 1000000 in
theorem do_no (kind step : Int) (ra aa : Option Addr) (rl rc al ac : Nat) (w : World) (hc : chkB kind rl al step = false) :
    Calls Try.prog 21 #[.int .i64 kind, .slice ra rl rc, .slice aa al ac, .int .i64 step] w fun e w' => e = .returned (.tuple #[.slice none 0 0, .int .i64 1]) ∧ w = w' := by
  go_enter Try.func21, Try.ntmps21
  go_wp2_with (go_at_call 27; refine (check_any _ _ _ _ _ _ _ _ _).mono ?_; rintro e w' ⟨rfl, rfl⟩)
  go_ret2
  exact ⟨rfl, rfl⟩
set_option maxRecDepth 100000 in
set_option maxHeartbeats 4000000 in
theorem do_yes (kind : Int) (step : Nat) (ra aa : Option Addr) (rl rc al ac : Nat) (xs ys : List Int) (w : World) (hs : SlAt .u8 w ra rl xs) (hn : ra = none → rl = 0 ∧ rc = 0) (ha : SlAt .u8 w aa al ys) (hl : rl ≤ 2048) (hbx : Pl.Bytes xs) (hby : Pl.Bytes ys) (hc : chkB kind rl al step = true) :
    Calls Try.prog 21 #[.int .i64 kind, .slice ra rl rc, .slice aa al ac, .int .i64 step] w fun e w' => ∃ v, e = .returned (.tuple #[v, .int .i64 0]) ∧ Own .u8 5 w' v (doL kind xs ys step rl) ∧ Kept (fun _ => False) w w' ∧ ∀ b, v.ownBlock = some b → w.heap.size ≤ b := by
  have hcc := of_decide_eq_true hc
  have hxl := hs.1
  have HS := Lib.hid hs
  have HA := Lib.hid ha
  have h1 : 1 ≤ step := by omega
  have h8 : step ≤ 8 := by omega
  have hal : al = 0 ∨ al = rl := hcc.2.2.2.2
  clear hs ha hcc
  go_enter Try.func21, Try.ntmps21
  go_wp2_with (go_at_call 27; refine (check_any _ _ _ _ _ _ _ _ _).mono ?_; rintro e w' ⟨rfl, rfl⟩)
  refine (clone_any _ _ _ xs _ HS.out hn (by omega)).mono ?_
  rintro e w1 ⟨v, rfl, ho1, hk1, hf1⟩
  obtain ⟨a', cap, rfl, -⟩ := ho1.shape
  rw [hxl] at ho1 hf1 ⊢
  have HO1 := Lib.hid ho1
  have HF1 := Lib.hid hf1
  have HXL := Lib.hid hxl
  clear ho1 hf1 hxl
  go_wp2
  go_loopw [22] (fun i wr => ∃ k : Nat, k ≤ rl ∧ i = .int .i64 k ∧ Own .u8 5 wr (.slice a' rl cap) (doL kind xs ys step k ++ xs.drop k) ∧ Kept (fun _ => False) w wr) (fun i _ => rl - (intOf i).toNat)
  case atStart => exact ⟨0, by omega, rfl, by simpa [doL] using HO1.out, hk1⟩
  case round =>
    obtain ⟨k, hk, rfl, ho, hkr⟩ := hrel
    have HO := Lib.hid ho
    by_cases hkn : k < rl
    · obtain ⟨g, rfl⟩ := ho.some (by omega)
      obtain ⟨-, -, hglt, hyc, hyf⟩ := ho.at
      have hsl := ho.slAt
      have hyk := hyc k hkn
      have hfk := hyf k
      have hgw : w.heap.size ≤ g := HF1.out g rfl
      rw [getD_right (by rw [doL_length]; exact Nat.le_refl _), doL_length, Nat.sub_self, show (xs.drop k).getD 0 0 = xs.getD k 0 by simp [List.getD_eq_getElem?_getD]] at hyk
      have hby0 := getB hbx k
      have hset := set_drop (doL kind xs ys step k) xs ((xs.getD k 0 - gAt kind xs ys step k) % 256) (by rw [doL_length, HXL.out]; exact hkn)
      rw [doL_length] at hset
      have hgb := gAt_byte (kind := kind) hbx hby step k
      have hsd := (HS.out.kept hkr (fun _ _ _ _ => id)).kept ((Kept.refl (fun _ => False) wr).drew) (fun _ _ _ _ => id)
      have had := (HA.out.kept hkr (fun _ _ _ _ => id)).kept ((Kept.refl (fun _ => False) wr).drew) (fun _ _ _ _ => id)
      have hcall := guess_any kind k step ra aa rl rc al ac xs ys wr.drew hsd had hkn h1 h8 hal hl hbx hby
      obtain ⟨q, hq⟩ : ∃ q, gAt kind xs ys step k = q := ⟨_, rfl⟩
      rw [hq] at hgb hcall hset
      obtain ⟨x, hx⟩ : ∃ x, xs.getD k 0 = x := ⟨_, rfl⟩
      rw [hx] at hyk hset hby0
      unfold Bt at hby0
      have hwr : IntKind.u8.wrap (x - q) = (x - q) % 256 := IntKind.wrap_u8 _
      have hlk : doL kind xs ys step (k + 1) = doL kind xs ys step k ++ [(x - q) % 256] := by simp only [doL]; rw [hx, hq]
      rw [← hlk] at hset
      obtain ⟨u, hu⟩ : ∃ u, (x - q) % 256 = u := ⟨_, rfl⟩
      rw [hu] at hwr hset
      have HSET := Lib.hid hset
      have HC := Lib.hid hcall
      have HKN := Lib.hid hkn
      have s5 : (0 : Int) ≤ (k : Int) := by omega
      have s6 : (k : Int) < (rl : Int) := by omega
      have hod := HO.out.kept ((Kept.refl (fun _ => False) wr).drew) (fun _ _ => id)
      have HOD := Lib.hid hod
      have HKD := Lib.hid hkr.drew
      have HKR := Lib.hid hkr
      have hgz : g < wr.heap.size := hglt
      clear ho hyc hyf hsl hset hcall hq hx hu hlk hod hgb hglt hkr hsd had
      go_wp2
      go_region_with (go_at_call 29; refine HC.out.mono ?_; rintro e w4 ⟨rfl, hk4⟩; have HO4 := Lib.hid (HOD.out.kept hk4 (fun _ _ => id)); have y4 := hk4.cell (show wr.drew.cell? ⟨g, k, none⟩ = some (.int .u8 x) from hyk) id; have f4 := (HO4.out.at).2.2.2.2 k)
      all_goals go_wp2
      all_goals
        go_roundw
        case rel =>
          have h9 := HO4.out.set HKN.out u
          refine ⟨k + 1, by omega, by go_num, h9.retag HSET.out.symm, ?_⟩
          exact (HKD.out.then hk4).setCell (p := ⟨g, k, none⟩) (.inr hgw) _
        case measure => simp [intOf]; omega
    · obtain rfl : k = rl := by omega
      clear ho
      go_wp2
      go_ret2
      refine ⟨_, rfl, HO.out.retag ?_, hkr, HF1.out⟩
      rw [List.drop_of_length_le (by have := HXL.out; omega), List.append_nil]
theorem do_any (kind step : Int) (ra aa : Option Addr) (rl rc al ac : Nat) (xs ys : List Int) (w : World) (hs : SlAt .u8 w ra rl xs) (hn : ra = none → rl = 0 ∧ rc = 0) (ha : SlAt .u8 w aa al ys) (hl : rl ≤ 2048) (hbx : Pl.Bytes xs) (hby : Pl.Bytes ys) :
    Calls Try.prog 21 #[.int .i64 kind, .slice ra rl rc, .slice aa al ac, .int .i64 step] w fun e w' => ∃ v, e = .returned (.tuple #[v, .int .i64 (codeU kind rl al step)]) ∧ Own .u8 5 w' v (resD kind xs ys step) ∧ Kept (fun _ => False) w w' ∧ ∀ b, v.ownBlock = some b → w.heap.size ≤ b := by
  have h1 := hs.1
  have h2 := ha.1
  by_cases hc : chkB kind rl al step = true
  · have hcc := of_decide_eq_true hc
    obtain ⟨st, rfl⟩ : ∃ st : Nat, step = st := ⟨step.toNat, by omega⟩
    unfold codeU resD
    rw [h1, h2, if_pos hc, if_pos hc]
    exact do_yes kind st ra aa rl rc al ac xs ys w hs hn ha hl hbx hby hc
  · have hf := Bool.eq_false_iff.2 hc
    unfold codeU resD
    rw [h1, h2, if_neg hc, if_neg hc]
    refine (do_no kind step ra aa rl rc al ac w hf).mono ?_
    rintro e w' ⟨rfl, rfl⟩
    exact ⟨_, rfl, Own.nil _ _ _, Kept.refl _ _, fun b h => by cases h⟩
end Go.Proofs.Ytgpgjpmgnbaneaa
