/- A number's digits; a string made bytes that may be appended to. -/
import Derived.Test.YtnaoobgghgnflaaMark2
import Derived.Test.YtnaoobgghgnflaaF12
import Derived.Test.YtnaoobgghgnflaaStr
import Derived.Test.YtnaoobgghgnflaaOpen
import Derived.Lib.ConvBytes
import Derived.Deep.LoopGhost
namespace Go.Proofs.Ytnaoobgghgnflaa
open Go.RowKit
set_option linter.unusedVariables false
set_option linter.unusedSimpArgs false
def ints (x : List Nat) : List Int := x.map (fun (n : Nat) => (n : Int))
/-- The digits of a number. -/
def digs (n : Nat) : List Nat := if h : n < 10 then [48 + n] else digs (n / 10) ++ [48 + n % 10]
  termination_by n
  decreasing_by omega
theorem digs_lt {n : Nat} (h : n < 10) : digs n = [48 + n] := by rw [digs, dif_pos h]
theorem digs_ge {n : Nat} (h : 10 ≤ n) : digs n = digs (n / 10) ++ [48 + n % 10] := by rw [digs, dif_neg (by omega)]
theorem digs_byte (n : Nat) : ∀ c ∈ digs n, 48 ≤ c ∧ c < 58 := by
  induction n using Nat.strongRecOn with
  | _ n ih =>
    intro c hc
    by_cases h : n < 10
    · rw [digs_lt h] at hc
      have : c = 48 + n := by simpa using hc
      omega
    · rw [digs_ge (by omega)] at hc
      rcases List.mem_append.1 hc with h1 | h1
      · exact ih (n / 10) (by omega) c h1
      · have : c = 48 + n % 10 := by simpa using h1
        omega
/-- The string of a list of bytes. -/
def nstr (x : List Nat) : ByteArray := strOfNums (ints x)
theorem strOf_append (x y : List Int) : strOfNums x ++ strOfNums y = strOfNums (x ++ y) := by
  unfold strOfNums
  rw [List.map_append, ← List.append_toArray]
  exact ByteArray.ext ByteArray.data_append
theorem strOf_size (x : List Int) : (strOfNums x).size = x.length := by
  unfold strOfNums
  show (List.toArray _).size = _
  simp
theorem ints_append (x y : List Nat) : ints (x ++ y) = ints x ++ ints y := List.map_append
theorem nstr_append (x y : List Nat) : nstr x ++ nstr y = nstr (x ++ y) := by unfold nstr; rw [strOf_append, ints_append]
theorem run_sadd {P : Program} (x y : List Int) (h : x.length + y.length ≤ 8388608) (t : TypeId) (w : World) : (binOp .add t (.string (strOfNums x)) (.string (strOfNums y))).run P w = .ok (.string (strOfNums (x ++ y))) w := by
  rw [binOp_string_add, run_string_add w _ _ (by rw [strOf_size]; omega) (by rw [strOf_size]; omega), strOf_append]
theorem tmod10 (n : Nat) : (n : Int).tmod 10 = ((n % 10 : Nat) : Int) := by simp [Int.tmod]
theorem tdiv10 (n : Nat) : (n : Int).tdiv 10 = ((n / 10 : Nat) : Int) := by simp [Int.tdiv]
theorem run_one (x : Int) (w : World) : (convert 22 9 (.slice (some ⟨w.heap.size, 0, none⟩) 1 1)).run Try.prog (w.alloc (.cells #[.int .u8 x] 5)) = .ok (.string (strOfNums [x])) (w.alloc (.cells #[.int .u8 x] 5)) :=
  run_str Try.underlying22 Try.underlying5 Try.underlying9 (slAt_blk (blk_new w _) rfl rfl)
set_option maxRecDepth 100000 in
set_option maxHeartbeats 4000000 in
theorem decimal_any (n : Nat) (hn : n ≤ 1073741824) (w : World) : Calls Try.prog 11 #[.int .i64 n] w fun e w' => e = .returned (.string (nstr (digs n))) ∧ Kept (fun _ => False) w w' := by
  have m0 := tmod10 n
  have m1 : IntKind.i64.wrap (48 + ((n % 10 : Nat) : Int)) = 48 + ((n % 10 : Nat) : Int) := IntWalk.i64_in _ (by omega)
  have m2 : IntKind.u8.wrap (48 + ((n % 10 : Nat) : Int)) = 48 + ((n % 10 : Nat) : Int) := IntWalk.u8_in _ (by omega)
  obtain ⟨r, hr⟩ : ∃ r, n % 10 = r := ⟨_, rfl⟩
  rw [hr] at m0 m1 m2
  have o1 := run_one
  have HR := Lib.hid hr
  have w9 : r < 10 := by omega
  clear hr
  go_enter Try.func11, Try.ntmps11
  go_wp2
  obtain ⟨w1, hw1⟩ : ∃ w1, w.alloc (.cells #[.int .u8 (48 + (r : Int))] 5) = w1 := ⟨_, rfl⟩
  rw [hw1]
  have HK := Lib.hid (show Kept (fun _ => False) w w1 by rw [← hw1]; exact (Kept.refl _ _).alloc _)
  clear m0 m1 m2 hw1
  go_loopg [0, 3] n (fun gg nv sv wr => ∃ (m : Nat) (t : List Nat), digs n = digs m ++ t ∧ t.length + m ≤ n ∧ m ≤ gg ∧ nv = .int .i64 (m : Int) ∧ sv = .string (strOfNums ((48 + ((m % 10 : Nat) : Int)) :: ints t)) ∧ Kept (fun _ => False) w wr)
  case atStart => exact ⟨n, [], by simp, by simp, by omega, rfl, by rw [HR.out]; rfl, HK.out⟩
  case round =>
    obtain ⟨m, t, hdg, hlen, hgg, rfl, rfl, hkw⟩ := hrel
    have H := Lib.hid (And.intro hdg (And.intro hlen hkw))
    clear hdg hkw
    by_cases h10 : 10 ≤ m
    · have g1 : decide (10 ≤ (m : Int)) = true := decide_eq_true (by omega)
      have d0 := tdiv10 m
      have d1 := tmod10 (m / 10)
      have m1 : IntKind.i64.wrap (48 + ((m / 10 % 10 : Nat) : Int)) = 48 + ((m / 10 % 10 : Nat) : Int) := IntWalk.i64_in _ (by omega)
      have m2 : IntKind.u8.wrap (48 + ((m / 10 % 10 : Nat) : Int)) = 48 + ((m / 10 % 10 : Nat) : Int) := IntWalk.u8_in _ (by omega)
      have hdm := digs_ge h10
      obtain ⟨m3, hm3⟩ : ∃ k, m / 10 = k := ⟨_, rfl⟩
      rw [hm3] at d0 d1 m1 m2 hdm
      obtain ⟨r3, hr3⟩ : ∃ k, m3 % 10 = k := ⟨_, rfl⟩
      rw [hr3] at d1 m1 m2
      obtain ⟨r0, hr0⟩ : ∃ k, m % 10 = k := ⟨_, rfl⟩
      rw [hr0] at hdm
      have i64m : IntKind.i64.wrap (m3 : Int) = (m3 : Int) := IntWalk.i64_in _ (by omega)
      obtain ⟨L, hL⟩ : ∃ L : List Int, (48 + ((m % 10 : Nat) : Int)) :: ints t = L := ⟨_, rfl⟩
      have hLl : L.length ≤ 1073741825 := by rw [← hL]; simp [ints]; omega
      have sz : ¬ (9223372036854775807 : Int) < ((strOfNums [48 + (r3 : Int)]).size : Int) + ((strOfNums L).size : Int) := by rw [strOf_size, strOf_size]; simp; omega
      rw [hL]
      have HM := Lib.hid (show digs n = digs m3 ++ ((48 + r0) :: t) ∧ ((48 + r0) :: t).length + m3 ≤ n ∧ m3 + 1 ≤ m ∧ [48 + (r3 : Int)] ++ L = (48 + ((m3 % 10 : Nat) : Int)) :: ints ((48 + r0) :: t) from by
        refine ⟨by rw [H.out.1, hdm]; simp, by simp; omega, by omega, ?_⟩
        rw [hr3, ← hL, hr0]; rfl)
      have HE := Lib.hid (strOf_append [48 + (r3 : Int)] L)
      clear hdm hm3 hr3 hr0 hL hLl hlen
      go_wp2
      go_roundg m3
      case rel => exact ⟨m3, _, HM.out.1, HM.out.2.1, by omega, rfl, by rw [HE.out, HM.out.2.2.2], H.out.2.2.alloc _⟩
      case measure => have := HM.out.2.2.1; omega
    · have g1 : decide (10 ≤ (m : Int)) = false := decide_eq_false (by omega)
      go_wp2
      refine bodyPost_ret (v := .string (strOfNums ((48 + ((m % 10 : Nat) : Int)) :: ints t))) (by simp [results, Try.results11, go_sem]) rfl ⟨?_, H.out.2.2⟩
      rw [H.out.1, digs_lt (by omega), Nat.mod_eq_of_lt (by omega)]
      rfl
theorem nstr_size (x : List Nat) : (nstr x).size = x.length := by unfold nstr; rw [strOf_size]; simp [ints]
theorem strOf_nums_bytes (x : List Nat) (hx : ∀ c ∈ x, c < 256) (j : Nat) (hj : j < x.length) : (((nstr x).data.toList.getD j 0).toNat : Int) = (ints x).getD j 0 := by
  unfold nstr ints strOfNums
  have h1 := hx _ (List.getElem_mem hj)
  simp [hj]
  omega
/-- A string made a slice of bytes. -/
theorem bytes_conv (w : World) (x : List Nat) (hx : ∀ c ∈ x, c < 256) (S : ByteArray) (hS : S = nstr x) : ∃ w2 cap, (convert 9 22 (.string S)).run Try.prog w = .ok (.slice (some ⟨w.heap.size, 0, none⟩) x.length cap) w2 ∧ SlAt .u8 w2 (some ⟨w.heap.size, 0, none⟩) x.length (ints x) ∧ Kept (fun _ => False) w w2 ∧ w2.heap.size = w.heap.size + 1 := by
  subst hS
  have h := Lib.run_convert_string_bytes (P := Try.prog) w 9 22 5 (nstr x) Try.underlying9 Try.underlying22 Try.underlying5
  rw [nstr_size] at h
  refine ⟨_, _, h, ⟨by simp [ints], .inr ⟨w.heap.size, 0, rfl, fun j hj => ?_⟩⟩, ⟨?_, ?_, ?_, ?_, fun k hk _ => Lib.bytesWorld_at_old w 5 _ k hk⟩, Lib.bytesWorld_size w 5 _⟩
  · rw [Nat.zero_add, Lib.bytesWorld_cell w 5 (nstr x) j (by rw [nstr_size]; exact hj), strOf_nums_bytes x hx j hj]
  · first | rfl | (simp [Lib.bytesWorld, World.freeze]; done) | (simp [Lib.bytesWorld, World.freeze]; rfl)
  · first | rfl | (simp [Lib.bytesWorld, World.freeze]; done) | (simp [Lib.bytesWorld, World.freeze]; rfl)
  · first | rfl | (simp [Lib.bytesWorld, World.freeze]; done) | (simp [Lib.bytesWorld, World.freeze]; rfl)
  · rw [Lib.bytesWorld_size]; omega
theorem digs_256 (n : Nat) : ∀ c ∈ digs n, c < 256 := fun c hc => by have := digs_byte n c hc; omega
def bvals (x : List Nat) : List Value := (ints x).map (Value.int .u8)
theorem bvals_append (x y : List Nat) : bvals (x ++ y) = bvals x ++ bvals y := by unfold bvals; rw [ints_append, List.map_append]
theorem bvals_len (x : List Nat) : (bvals x).length = x.length := by simp [bvals, ints]
theorem bvals_at {x : List Nat} {j : Nat} {u : Value} (h : (bvals x)[j]? = some u) : u = .int .u8 ((ints x).getD j 0) := by
  unfold bvals at h
  rw [List.getElem?_map, Option.map_eq_some_iff] at h
  obtain ⟨q, hq, rfl⟩ := h
  rw [List.getD_eq_getElem?_getD, hq]; rfl
/-- A string made a slice of bytes that may be appended to. -/
theorem bytes_convX (w : World) (x : List Nat) (hx : ∀ c ∈ x, c < 256) (S : ByteArray) (hS : S = nstr x) (hl : x.length ≤ 1000000) : ∃ w2 cap, (convert 9 22 (.string S)).run Try.prog w = .ok (.slice (some ⟨w.heap.size, 0, none⟩) x.length cap) w2 ∧ OwnX 5 w2 (.slice (some ⟨w.heap.size, 0, none⟩) x.length cap) (bvals x) ∧ Kept (fun _ => False) w w2 ∧ w2.heap.size = w.heap.size + 1 := by
  obtain ⟨w2, cap, h1, h2, h3, h4⟩ := bytes_conv w x hx S hS
  refine ⟨w2, cap, h1, ?_, h3, h4⟩
  subst hS
  have h := Lib.run_convert_string_bytes (P := Try.prog) w 9 22 5 (nstr x) Try.underlying9 Try.underlying22 Try.underlying5
  rw [nstr_size] at h
  rw [h1] at h
  injection h with e1 e2
  injection e1 with _ _ e3
  have hge := grownCap_ge w x.length 0 5
  have hcm := grownCap_le_maxLen w x.length 0 5 (by simp only [maxLen]; omega)
  have hcsz : (Lib.bytesCells w 5 (nstr x)).size = cap := by
    unfold Lib.bytesCells
    rw [nstr_size, e3]
    simp
    have h9 : (nstr x).data.size = x.length := nstr_size x
    have h8 : (nstr x).size = x.length := nstr_size x
    omega
  right
  refine ⟨w.heap.size, cap, Lib.bytesCells w 5 (nstr x), ((Lib.bytesCells w 5 (nstr x)).size, (Lib.bytesCells w 5 (nstr x)).size + 1), by rw [bvals_len], by rw [e2]; exact Lib.bytesWorld_at_new w 5 _, fun i hi => by simp only; omega, by rw [bvals_len, e3]; exact hge, by rw [e3]; exact hcm, hcsz, ?_⟩
  rw [bvals_len]
  apply List.ext_getElem?
  intro j
  by_cases hj : j < x.length
  · rw [List.getElem?_take_of_lt hj]
    have h8 := Lib.bytesWorld_cell w 5 (nstr x) j (by rw [nstr_size]; exact hj)
    rw [strOf_nums_bytes x hx j hj] at h8
    rw [blk_cell (Lib.bytesWorld_at_new w 5 (nstr x)) j] at h8
    rw [Array.getElem?_toList]
    rw [h8]
    unfold bvals
    rw [List.getElem?_map, List.getD_eq_getElem?_getD, List.getElem?_eq_getElem (show j < (ints x).length by simpa [ints] using hj)]
    rfl
  · rw [List.getElem?_eq_none (by simp; omega), List.getElem?_eq_none (by rw [bvals_len]; omega)]
theorem OwnX.slAt {w : World} {v : Value} {x : List Nat} (h : OwnX 5 w v (bvals x)) : ∃ a cap, v = .slice a x.length cap ∧ SlAt .u8 w a x.length (ints x) ∧ x.length ≤ cap ∧ cap ≤ maxLen ∧ (a = none → x.length = 0 ∧ cap = 0) ∧ ∀ b off, a = some ⟨b, off, none⟩ → v.ownBlock = some b := by
  obtain ⟨a, cap, h1, h2, h3, h4, h5, h6⟩ := h.shape
  rw [bvals_len] at h1 h2 h4 h6
  refine ⟨a, cap, h1, ⟨by simp [ints], ?_⟩, h2, h3, h4, fun b off h => (h5 b off h).2⟩
  rcases h6 with h6 | ⟨b, hb, hc⟩
  · exact .inl h6
  · refine .inr ⟨b, 0, hb, fun j hj => ?_⟩
    rw [Nat.zero_add]
    refine hc j _ ?_
    unfold bvals
    rw [List.getElem?_map, List.getD_eq_getElem?_getD, List.getElem?_eq_getElem (show j < (ints x).length by simpa [ints] using hj)]
    rfl
theorem news_one {w : World} (u : Value) (e : TypeId) : ∀ j v, ([u] : List Value)[j]? = some v → (w.alloc (.cells #[u] e)).cell? ((⟨w.heap.size, 0, none⟩ : Addr).add j) = some v := by
  intro j v h
  have hj : j = 0 := by
    rcases j with _ | j
    · rfl
    · simp at h
  subst hj
  have hadd : (⟨w.heap.size, 0, none⟩ : Addr).add 0 = ⟨w.heap.size, 0, none⟩ := by unfold Addr.add; split <;> simp_all
  rw [hadd, blk_cell (blk_new w _)]
  simpa using h
theorem own_prov {w w' : World} {v v' : Value} {e : TypeId} {B : Nat} (hp : v'.ownBlock = v.ownBlock ∨ v'.ownBlock = some w.heap.size) (hB : B ≤ w.heap.size) (hv : ∀ b, v.ownBlock = some b → B ≤ b) : ∀ b, v'.ownBlock = some b → B ≤ b := by
  intro b hb
  rcases hp with h1 | h1 <;> rw [h1] at hb
  · exact hv b hb
  · cases hb; exact hB
end Go.Proofs.Ytnaoobgghgnflaa
