/- Rows whose block bears a mark; appends onto them; Decimals; strings as bytes. -/
import Derived.Test.YtmplpcmcbliadaaGreatDoorBx12
import Derived.Lib.FrozenHead2
import Derived.Lib.ConvBytes
import Derived.Lib.AppendStr
import Derived.Deep.LoopGhost
set_option linter.unusedVariables false
set_option linter.unusedSimpArgs false
namespace Go.Proofs.YtmplpcmcbliadaaGreatDoor
open Go.RowKit Go.Lib Pl
def Loose (n : Nat) (fz : Nat × Nat) : Prop := ∀ i, i < n -> ¬ (fz.1 <= i /\ i < fz.2)
def OwnX (e : TypeId) (w : World) (v : Value) (xs : List Value) : Prop :=
 (v = .slice none 0 0 /\ xs = []) \/
 ∃ g cap cur fz, v = .slice (some ⟨g, 0, none⟩) xs.length cap /\ w.heap[g]? = some (.cells cur e fz) /\ Loose cur.size fz /\ xs.length <= cap /\ cap <= maxLen /\ cur.size = cap /\ cur.toList.take xs.length = xs
theorem OwnX.kept {e : TypeId} {S : Nat -> Prop} {w w' : World} {v : Value} {xs : List Value} (h : OwnX e w v xs) (hk : Kept S w w') (hn : ∀ b, v.ownBlock = some b -> ¬ S b) : OwnX e w' v xs := by
 rcases h with h | ⟨g, cap, cur, fz, rfl, hg, r⟩
 ·exact .inl h
 ·exact .inr ⟨g, cap, cur, fz, rfl, hk.blk hg (hn g rfl), r⟩
theorem OwnX.lt {e : TypeId} {w : World} {v : Value} {xs : List Value} (h : OwnX e w v xs) : ∀ b, v.ownBlock = some b -> b < w.heap.size := by
 intro b hb
 rcases h with ⟨rfl, -⟩ | ⟨g, cap, cur, fz, rfl, hg, -⟩
 ·cases hb
 ·cases hb; exact lt_of_blk hg
theorem OwnX.shape {e : TypeId} {w : World} {v : Value} {xs : List Value} (h : OwnX e w v xs) : ∃ a cap, v = .slice a xs.length cap /\ xs.length <= cap /\ cap <= maxLen /\ (a = none -> xs.length = 0 /\ cap = 0) /\ (∀ b off, a = some ⟨b, off, none⟩ -> off = 0 /\ v.ownBlock = some b) /\ (xs.length = 0 \/ ∃ b, a = some ⟨b, 0, none⟩ /\ ∀ j u, xs[j]? = some u -> w.cell? ⟨b, j, none⟩ = some u) := by
 rcases h with ⟨rfl, rfl⟩ | ⟨g, cap, cur, fz, rfl, hg, hl, hn, hc, hcs, ht⟩
 ·exact ⟨none, 0, rfl, Nat.le_refl _, by simp [maxLen], (fun _ => ⟨rfl, rfl⟩), (fun _ _ h => (by cases h)), .inl rfl⟩
 ·refine ⟨_, cap, rfl, hn, hc, (fun h => by cases h), (fun b off h => by cases h; exact ⟨rfl, rfl⟩), .inr ⟨g, rfl, fun j u hu => ?_⟩⟩
  rw [blk_cell hg]
  rw [<- ht, List.getElem?_take] at hu
  split at hu
  ·simpa using hu
  ·cases hu
theorem OwnX.nil (e : TypeId) (w : World) : OwnX e w (.slice none 0 0) [] := .inl ⟨rfl, rfl⟩
theorem OwnX.of {e : TypeId} {w : World} {v : Value} {n : Nat} {xs : List Value} (h : w.ownsRow 0 e 1 v n xs) : OwnX e w v xs := by
 obtain ⟨h1, h2⟩ := h
 rw [Nat.mul_one] at h1
 rcases h2 with ⟨rfl, h0⟩ | ⟨g, cap, cur, rfl, -, hg, hn, hc, hcs, ht⟩
 ·exact .inl ⟨rfl, List.eq_nil_of_length_eq_zero (by omega)⟩
 ·subst h1
  rw [Nat.mul_one] at hcs ht
  exact .inr ⟨g, cap, cur, (0, 0), rfl, hg, fun i _ h => by omega, hn, hc, hcs, ht⟩
def nstr (x : List Nat) : ByteArray := strOfNums (ints x)
theorem strOf_append (x y : List Int) : strOfNums x ++ strOfNums y = strOfNums (x ++ y) := by
 unfold strOfNums
 rw [List.map_append, <- List.append_toArray]
 exact ByteArray.ext ByteArray.data_append
theorem strOf_size (x : List Int) : (strOfNums x).size = x.length := by
 unfold strOfNums
 show (List.toArray _).size = _
 simp
theorem nstr_append (x y : List Nat) : nstr x ++ nstr y = nstr (x ++ y) := by unfold nstr; rw [strOf_append, ints_append]
theorem nstr_size (x : List Nat) : (nstr x).size = x.length := by unfold nstr; rw [strOf_size]; simp [ints]
theorem strOf_nums_bytes (x : List Nat) (hx : ∀ c ∈ x, c < 256) (j : Nat) (hj : j < x.length) : (((nstr x).data.toList.getD j 0).toNat : Int) = (ints x).getD j 0 := by
 unfold nstr ints strOfNums
 have h1 := hx _ (List.getElem_mem hj)
 simp [hj]
 omega
theorem bytes_conv (w : World) (x : List Nat) (hx : ∀ c ∈ x, c < 256) (S : ByteArray) (hS : S = nstr x) : ∃ w2 cap, (convert 9 22 (.string S)).run Tryz.prog w = .ok (.slice (some ⟨w.heap.size, 0, none⟩) x.length cap) w2 /\ SlAt .u8 w2 (some ⟨w.heap.size, 0, none⟩) x.length (ints x) /\ Kept (fun _ => False) w w2 /\ w2.heap.size = w.heap.size + 1 := by
 subst hS
 have h := Lib.run_convert_string_bytes (P := Tryz.prog) w 9 22 5 (nstr x) Tryz.underlying9 Tryz.underlying22 Tryz.underlying5
 rw [nstr_size] at h
 refine ⟨_, _, h, ⟨by simp [ints], .inr ⟨w.heap.size, 0, rfl, fun j hj => ?_⟩⟩, ⟨?_, ?_, ?_, ?_, fun k hk _ => Lib.bytesWorld_at_old w 5 _ k hk⟩, Lib.bytesWorld_size w 5 _⟩
 ·rw [Nat.zero_add, Lib.bytesWorld_cell w 5 (nstr x) j (by rw [nstr_size]; exact hj), strOf_nums_bytes x hx j hj]
 ·first | rfl | (simp [Lib.bytesWorld, World.freeze]; done) | (simp [Lib.bytesWorld, World.freeze]; rfl)
 ·first | rfl | (simp [Lib.bytesWorld, World.freeze]; done) | (simp [Lib.bytesWorld, World.freeze]; rfl)
 ·first | rfl | (simp [Lib.bytesWorld, World.freeze]; done) | (simp [Lib.bytesWorld, World.freeze]; rfl)
 ·rw [Lib.bytesWorld_size]; omega
def bvals (x : List Nat) : List Value := (ints x).map (Value.int .u8)
theorem bvals_len (x : List Nat) : (bvals x).length = x.length := by simp [bvals, ints]
theorem bytes_convX (w : World) (x : List Nat) (hx : ∀ c ∈ x, c < 256) (S : ByteArray) (hS : S = nstr x) (hl : x.length <= 1000000) : ∃ w2 cap, (convert 9 22 (.string S)).run Tryz.prog w = .ok (.slice (some ⟨w.heap.size, 0, none⟩) x.length cap) w2 /\ OwnX 5 w2 (.slice (some ⟨w.heap.size, 0, none⟩) x.length cap) (bvals x) /\ Kept (fun _ => False) w w2 /\ w2.heap.size = w.heap.size + 1 := by
 obtain ⟨w2, cap, h1, h2, h3, h4⟩ := bytes_conv w x hx S hS
 refine ⟨w2, cap, h1, ?_, h3, h4⟩
 subst hS
 have h := Lib.run_convert_string_bytes (P := Tryz.prog) w 9 22 5 (nstr x) Tryz.underlying9 Tryz.underlying22 Tryz.underlying5
 rw [nstr_size] at h
 rw [h1] at h
 injection h with e1 e2
 injection e1 with _ _ e3
 have hge := grownCap_ge w x.length 0 5
 have hcm := grownCap_le_maxLen w x.length 0 5 (by simp only [maxLen]; omega)
 have hcsz : (Lib.bytesCells w 5 (nstr x)).size = cap := by
  unfold Lib.bytesCells
  rw [nstr_size, e3]
  simp
  have h9 : (nstr x).data.size = x.length := nstr_size x
  have h8 : (nstr x).size = x.length := nstr_size x
  omega
 right
 refine ⟨w.heap.size, cap, Lib.bytesCells w 5 (nstr x), ((Lib.bytesCells w 5 (nstr x)).size, (Lib.bytesCells w 5 (nstr x)).size + 1), by rw [bvals_len], by rw [e2]; exact Lib.bytesWorld_at_new w 5 _, fun i hi => by simp only; omega, by rw [bvals_len, e3]; exact hge, by rw [e3]; exact hcm, hcsz, ?_⟩
 rw [bvals_len]
 apply List.ext_getElem?
 intro j
 by_cases hj : j < x.length
 ·rw [List.getElem?_take_of_lt hj]
  have h8 := Lib.bytesWorld_cell w 5 (nstr x) j (by rw [nstr_size]; exact hj)
  rw [strOf_nums_bytes x hx j hj] at h8
  rw [blk_cell (Lib.bytesWorld_at_new w 5 (nstr x)) j] at h8
  rw [Array.getElem?_toList]
  rw [h8]
  unfold bvals
  rw [List.getElem?_map, List.getD_eq_getElem?_getD, List.getElem?_eq_getElem (show j < (ints x).length by simpa [ints] using hj)]
  rfl
 ·rw [List.getElem?_eq_none (by simp; omega), List.getElem?_eq_none (by rw [bvals_len]; omega)]
theorem OwnX.slAt {w : World} {v : Value} {x : List Nat} (h : OwnX 5 w v (bvals x)) : ∃ a cap, v = .slice a x.length cap /\ SlAt .u8 w a x.length (ints x) /\ x.length <= cap /\ cap <= maxLen /\ (a = none -> x.length = 0 /\ cap = 0) /\ ∀ b off, a = some ⟨b, off, none⟩ -> v.ownBlock = some b := by
 obtain ⟨a, cap, h1, h2, h3, h4, h5, h6⟩ := h.shape
 rw [bvals_len] at h1 h2 h4 h6
 refine ⟨a, cap, h1, ⟨by simp [ints], ?_⟩, h2, h3, h4, fun b off h => (h5 b off h).2⟩
 rcases h6 with h6 | ⟨b, hb, hc⟩
 ·exact .inl h6
 ·refine .inr ⟨b, 0, hb, fun j hj => ?_⟩
  rw [Nat.zero_add]
  refine hc j _ ?_
  unfold bvals
  rw [List.getElem?_map, List.getD_eq_getElem?_getD, List.getElem?_eq_getElem (show j < (ints x).length by simpa [ints] using hj)]
  rfl
def OX (w : World) (v : Value) (xs : List Int) : Prop := OwnX 5 w v (xs.map (Value.int .u8))
theorem OX.kept {S : Nat -> Prop} {w w' : World} {v : Value} {xs : List Int} (h : OX w v xs) (hk : Kept S w w') (hn : ∀ b, v.ownBlock = some b -> ¬ S b) : OX w' v xs := OwnX.kept h hk hn
theorem OX.shape {w : World} {v : Value} {xs : List Int} (h : OX w v xs) : ∃ a cap, v = .slice a xs.length cap /\ SlAt .u8 w a xs.length xs /\ xs.length <= cap /\ cap <= maxLen /\ (a = none -> xs.length = 0 /\ cap = 0) /\ ∀ b off, a = some ⟨b, off, none⟩ -> v.ownBlock = some b := by
 obtain ⟨a, cap, h1, h2, h3, h4, h5, h6⟩ := OwnX.shape h
 rw [List.length_map] at h1 h2 h4 h6
 refine ⟨a, cap, h1, ⟨rfl, ?_⟩, h2, h3, h4, fun b off h => (h5 b off h).2⟩
 rcases h6 with h6 | ⟨b, hb, hc⟩
 ·exact .inl h6
 ·refine .inr ⟨b, 0, hb, fun j hj => ?_⟩
  rw [Nat.zero_add]
  refine hc j _ ?_
  rw [List.getElem?_map, List.getD_eq_getElem?_getD, List.getElem?_eq_getElem hj]
  rfl
theorem OX.lt {w : World} {v : Value} {xs : List Int} (h : OX w v xs) : ∀ b, v.ownBlock = some b -> b < w.heap.size := OwnX.lt h
end Go.Proofs.YtmplpcmcbliadaaGreatDoor
