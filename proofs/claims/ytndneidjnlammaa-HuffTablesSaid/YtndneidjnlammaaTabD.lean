/- A table: where it lies; codes dealt out: deal. -/
import Derived.Test.YtndneidjnlammaaCodesP
import Derived.Test.YtndneidjnlammaaGrow
import Derived.Test.YtndneidjnlammaaCopy
import Derived.Test.YtndneidjnlammaaApp
namespace Go.Proofs.Ytndneidjnlammaa
open Go.RowKit Pl
set_option linter.unusedVariables false
set_option linter.unusedSimpArgs false
attribute [local go_sem] growOp growUpon sameUpon
def TCells (cs : List Int) (sv cv lv : Value) (last : Int) : List Value := cs.map (Value.int .i64) ++ [sv, cv, lv, .int .i64 last]
/-- The block of a table. -/
def TBk (W : World) (a : Nat) (cs : List Int) (sv cv lv : Value) (last : Int) : Prop := cs.length = 16 ∧ W.heap[a]? = some (.cells (TCells cs sv cv lv last).toArray 60 (0, 0))
theorem TBk.lt {W : World} {a : Nat} {cs : List Int} {sv cv lv : Value} {last : Int} (h : TBk W a cs sv cv lv last) : a < W.heap.size := lt_of_blk h.2
theorem TBk.kept {S : Nat → Prop} {W w' : World} {a : Nat} {cs : List Int} {sv cv lv : Value} {last : Int} (h : TBk W a cs sv cv lv last) (hk : Kept S W w') (hn : ¬ S a) : TBk w' a cs sv cv lv last := ⟨h.1, hk.blk h.2 hn⟩
theorem TBk.cell {W : World} {a : Nat} {cs : List Int} {sv cv lv : Value} {last : Int} (h : TBk W a cs sv cv lv last) (i : Nat) {v : Value} (hi : (TCells cs sv cv lv last)[i]? = some v) : W.cell? ⟨a, i, none⟩ = some v ∧ W.frozen? ⟨a, i, none⟩ = false :=
  ⟨by rw [blk_cell h.2, List.getElem?_toArray, hi], blk_free h.2 i⟩
theorem tc_tail (cs : List Int) (sv cv lv : Value) (last : Int) (hl : cs.length = 16) (j : Nat) : (TCells cs sv cv lv last)[16 + j]? = [sv, cv, lv, Value.int .i64 last][j]? := by
  unfold TCells
  rw [List.getElem?_append_right (by simp; omega)]
  simp [hl]
theorem TBk.cn {W : World} {a : Nat} {cs : List Int} {sv cv lv : Value} {last : Int} (h : TBk W a cs sv cv lv last) (j : Nat) (hj : j < 16) : W.cell? ⟨a, j, none⟩ = some (.int .i64 (cs.getD j 0)) ∧ W.frozen? ⟨a, j, none⟩ = false := by
  refine h.cell j ?_
  unfold TCells
  rw [List.getElem?_append_left (by simp; have := h.1; omega)]
  have : j < cs.length := by have := h.1; omega
  simp [this]
theorem TBk.fs {W : World} {a : Nat} {cs : List Int} {sv cv lv : Value} {last : Int} (h : TBk W a cs sv cv lv last) : W.cell? ⟨a, 16, none⟩ = some sv ∧ W.frozen? ⟨a, 16, none⟩ = false := h.cell (16 + 0) (tc_tail cs sv cv lv last h.1 0)
theorem TBk.fc {W : World} {a : Nat} {cs : List Int} {sv cv lv : Value} {last : Int} (h : TBk W a cs sv cv lv last) : W.cell? ⟨a, 17, none⟩ = some cv ∧ W.frozen? ⟨a, 17, none⟩ = false := h.cell (16 + 1) (tc_tail cs sv cv lv last h.1 1)
theorem TBk.fl {W : World} {a : Nat} {cs : List Int} {sv cv lv : Value} {last : Int} (h : TBk W a cs sv cv lv last) : W.cell? ⟨a, 18, none⟩ = some lv ∧ W.frozen? ⟨a, 18, none⟩ = false := h.cell (16 + 2) (tc_tail cs sv cv lv last h.1 2)
theorem TBk.fz {W : World} {a : Nat} {cs : List Int} {sv cv lv : Value} {last : Int} (h : TBk W a cs sv cv lv last) : W.cell? ⟨a, 19, none⟩ = some (.int .i64 last) ∧ W.frozen? ⟨a, 19, none⟩ = false := h.cell (16 + 3) (tc_tail cs sv cv lv last h.1 3)
theorem TBk.set {W : World} {a : Nat} {cs cs' : List Int} {sv cv lv sv' cv' lv' : Value} {last last' : Int} (h : TBk W a cs sv cv lv last) (i : Nat) (u : Value) (hl : cs'.length = 16) (hs : (TCells cs sv cv lv last).set i u = TCells cs' sv' cv' lv' last') : TBk (W.setCell ⟨a, i, none⟩ u) a cs' sv' cv' lv' last' :=
  ⟨hl, by rw [← hs]; have := blk_set h.2 i u; simpa using this⟩
theorem tc_set (cs : List Int) (sv cv lv u : Value) (last : Int) (hl : cs.length = 16) (j : Nat) : (TCells cs sv cv lv last).set (16 + j) u = cs.map (Value.int .i64) ++ [sv, cv, lv, Value.int .i64 last].set j u := by
  unfold TCells
  rw [List.set_append_right _ _ (by simp; omega)]
  simp [hl]
theorem TBk.ss {W : World} {a : Nat} {cs : List Int} {sv cv lv : Value} {last : Int} (h : TBk W a cs sv cv lv last) (u : Value) : TBk (W.setCell ⟨a, 16, none⟩ u) a cs u cv lv last := h.set 16 u h.1 (tc_set cs sv cv lv u last h.1 0)
theorem TBk.sz {W : World} {a : Nat} {cs : List Int} {sv cv lv : Value} {last : Int} (h : TBk W a cs sv cv lv last) (u : Int) : TBk (W.setCell ⟨a, 19, none⟩ (.int .i64 u)) a cs sv cv lv u := h.set 19 _ h.1 (tc_set cs sv cv lv _ last h.1 3)
theorem TBk.sn {W : World} {a : Nat} {cs : List Int} {sv cv lv : Value} {last : Int} (h : TBk W a cs sv cv lv last) (j : Nat) (hj : j < 16) (u : Int) : TBk (W.setCell ⟨a, j, none⟩ (.int .i64 u)) a (cs.set j u) sv cv lv last :=
  h.set j _ (by simpa using h.1) (by unfold TCells; rw [List.set_append_left _ _ (by simp; have := h.1; omega), List.map_set])
/-- A table with its rows. -/
def TOwn (W : World) (a : Nat) (cs : List Int) (ss gs ls : List Nat) (last : Int) (sv cv : Value) (la : Option Addr) (lc : Nat) : Prop :=
  TBk W a cs sv cv (.slice la ls.length lc) last ∧ Own .i64 3 W sv (ints ss) ∧ Own .u32 28 W cv (ints gs) ∧ SlAt .u8 W la ls.length (ints ls) ∧ sv.ownBlock ≠ some a ∧ cv.ownBlock ≠ some a ∧ (∀ b, sv.ownBlock = some b → cv.ownBlock ≠ some b) ∧
    ∀ b off, 0 < ls.length → la = some ⟨b, off, none⟩ → b ≠ a ∧ sv.ownBlock ≠ some b ∧ cv.ownBlock ≠ some b ∧ b < W.heap.size
theorem TOwn.grow {W w' : World} {a : Nat} {cs : List Int} {ss gs ls : List Nat} {last : Int} {sv cv : Value} {la : Option Addr} {lc : Nat} (h : TOwn W a cs ss gs ls last sv cv la lc) (hk : Kept (fun _ => False) W w') : TOwn w' a cs ss gs ls last sv cv la lc := by
  obtain ⟨h1, h2, h3, h4, h5, h6, h7, h8⟩ := h
  exact ⟨h1.kept hk id, h2.kept hk (fun _ _ => id), h3.kept hk (fun _ _ => id), h4.kept hk (fun _ _ _ _ => id), h5, h6, h7, fun b off h0 h => by have := h8 b off h0 h; have := hk.size; exact ⟨by omega, (h8 b off h0 h).2.1, (h8 b off h0 h).2.2.1, by omega⟩⟩
/-- A symbol appended. -/
theorem TOwn.app {W wa w5 : World} {a : Nat} {cs : List Int} {ss ss' gs ls : List Nat} {last : Int} {sv cv v5 : Value} {la : Option Addr} {lc : Nat} (h : TOwn W a cs ss gs ls last sv cv la lc) (hka : Kept (fun _ => False) W wa) (ho5 : Own .i64 3 w5 v5 (ints ss'))
    (hk5 : Kept (fun k => sv.ownBlock = some k) wa w5) (hpr5 : v5.ownBlock = sv.ownBlock ∨ v5.ownBlock = some wa.heap.size) :
    TOwn (w5.setCell ⟨a, 16, none⟩ v5) a cs ss' gs ls last v5 cv la lc ∧ Kept (fun i => i = a ∨ sv.ownBlock = some i) W (w5.setCell ⟨a, 16, none⟩ v5) := by
  obtain ⟨h1, h2, h3, h4, h5, h6, h7, h8⟩ := h
  have hza := hka.size
  have haW := h1.lt
  have hcl := h3.lt
  have h5a : v5.ownBlock ≠ some a := by
    intro h
    rcases hpr5 with h' | h'
    · exact h5 (by rw [← h', h])
    · rw [h] at h'; have := Option.some.inj h'; omega
  have hkw : Kept (fun k => sv.ownBlock = some k) W w5 := (hka.mono (fun _ _ h => h.elim)).then hk5
  have hk6 : Kept (fun j => j = a) w5 (w5.setCell ⟨a, 16, none⟩ v5) := (Kept.refl (fun j => j = a) w5).setCell (p := ⟨a, 16, none⟩) (.inl rfl) v5
  refine ⟨⟨(h1.kept hkw h5).ss v5, ho5.kept hk6 (fun b hb hba => h5a (by rw [hb]; exact congrArg some hba)), (h3.kept hkw (fun b hb h => h7 b h hb)).kept hk6 (fun b hb hba => h6 (by rw [hb]; exact congrArg some hba)),
    (h4.kept hkw (fun b off h0 h => (h8 b off h0 h).2.1)).kept hk6 (fun b off h0 h => (h8 b off h0 h).1), h5a, h6, ?_, ?_⟩, ?_⟩
  · intro b hb hv
    rcases hpr5 with h | h
    · exact h7 b (by rw [← h, hb]) hv
    · rw [hb] at h; have h9 := Option.some.inj h; have := hcl b hv; omega
  · intro b off h0 h
    obtain ⟨q1, q2, q3, q4⟩ := h8 b off h0 h
    refine ⟨q1, ?_, q3, by have := hkw.size; simp; omega⟩
    intro h9
    rcases hpr5 with h' | h'
    · exact q2 (by rw [← h', h9])
    · rw [h9] at h'; have := Option.some.inj h'; omega
  · exact (hkw.mono (S' := fun i => i = a ∨ sv.ownBlock = some i) fun i _ hi => Or.inr hi).setCell (p := ⟨a, 16, none⟩) (.inl (.inl rfl)) v5
/-- A code laid. -/
theorem TOwn.code {W : World} {a : Nat} {cs : List Int} {ss gs ls : List Nat} {last : Int} {sv cv : Value} {la : Option Addr} {lc : Nat} (h : TOwn W a cs ss gs ls last sv cv la lc) {g cap : Nat} (hcv : cv = .slice (some ⟨g, 0, none⟩) gs.length cap) (i u : Nat) (hi : i < gs.length) :
    TOwn (W.setCell ⟨g, i, none⟩ (.int .u32 u)) a cs ss (gs.set i u) ls last sv cv la lc ∧ Kept (fun j => cv.ownBlock = some j) W (W.setCell ⟨g, i, none⟩ (.int .u32 u)) := by
  obtain ⟨h1, h2, h3, h4, h5, h6, h7, h8⟩ := h
  have hog : cv.ownBlock = some g := by rw [hcv]; rfl
  have hk : Kept (fun j => j = g) W (W.setCell ⟨g, i, none⟩ (.int .u32 u)) := (Kept.refl (fun j => j = g) W).setCell (p := ⟨g, i, none⟩) (.inl rfl) _
  have hset : Own .u32 28 (W.setCell ⟨g, i, none⟩ (.int .u32 u)) cv (ints (gs.set i u)) := by
    have h9 : Own .u32 28 W (.slice (some ⟨g, 0, none⟩) gs.length cap) (ints gs) := by rw [← hcv]; exact h3
    have h10 := h9.set hi (u : Int)
    rw [← hcv] at h10
    have e : ints (gs.set i u) = (ints gs).set i (u : Int) := by unfold ints; rw [List.map_set]
    rw [e]; exact h10
  refine ⟨⟨h1.kept hk (fun h => h6 (by rw [hog, h])), h2.kept hk (fun b hb h => h7 b hb (by rw [hog, h])), hset, h4.kept hk (fun b off h0 h h9 => (h8 b off h0 h).2.2.1 (by rw [hog, h9])), h5, h6, h7, fun b off h0 h => by obtain ⟨q1, q2, q3, q4⟩ := h8 b off h0 h; exact ⟨q1, q2, q3, by simpa using q4⟩⟩, hk.mono fun j _ (hj : j = g) => by rw [hog, hj]⟩
/-- The codes when those ahead of length k are laid, and of length k those of the first i symbols. -/
def gsAt (ls : List Nat) (k i : Nat) : List Nat := (List.range ls.length).map (fun s => if (1 ≤ ls.getD s 0 ∧ ls.getD s 0 < k) ∨ (ls.getD s 0 = k ∧ s < i) then rev (codeL ls s) (ls.getD s 0) else 0)
theorem gsAt_len (ls : List Nat) (k i : Nat) : (gsAt ls k i).length = ls.length := by simp [gsAt]
theorem gsAt_get (ls : List Nat) (k i s : Nat) (hs : s < ls.length) : (gsAt ls k i)[s]? = some (if (1 ≤ ls.getD s 0 ∧ ls.getD s 0 < k) ∨ (ls.getD s 0 = k ∧ s < i) then rev (codeL ls s) (ls.getD s 0) else 0) := by
  unfold gsAt
  rw [List.getElem?_map, List.getElem?_range hs]; rfl
theorem gsAt_zero (ls : List Nat) : gsAt ls 1 0 = List.replicate ls.length 0 := by
  apply List.ext_getElem?
  intro s
  by_cases hs : s < ls.length
  · rw [gsAt_get ls 1 0 s hs, if_neg (by omega), List.getElem?_replicate, if_pos hs]
  · rw [List.getElem?_eq_none (by rw [gsAt_len]; omega), List.getElem?_eq_none (by simp; omega)]
theorem gsAt_set {ls : List Nat} {k i : Nat} (hi : i < ls.length) (hk : ls.getD i 0 = k) : (gsAt ls k i).set i (rev (codeL ls i) k) = gsAt ls k (i + 1) := by
  apply List.ext_getElem?
  intro s
  by_cases hs : s < ls.length
  · rw [gsAt_get ls k (i + 1) s hs, List.getElem?_set]
    by_cases h : i = s
    · subst h
      rw [if_pos rfl, if_pos (by rw [gsAt_len]; exact hs), if_pos (by omega), hk]
    · rw [if_neg h, gsAt_get ls k i s hs]
      congr 1
      by_cases hc : (1 ≤ ls.getD s 0 ∧ ls.getD s 0 < k) ∨ (ls.getD s 0 = k ∧ s < i)
      · rw [if_pos hc, if_pos (by omega)]
      · rw [if_neg hc, if_neg (by omega)]
  · rw [List.getElem?_eq_none (by rw [List.length_set, gsAt_len]; omega), List.getElem?_eq_none (by rw [gsAt_len]; omega)]
theorem gsAt_skip {ls : List Nat} {k i : Nat} (hk : ls.getD i 0 ≠ k) : gsAt ls k (i + 1) = gsAt ls k i := by
  apply List.ext_getElem?
  intro s
  by_cases hs : s < ls.length
  · rw [gsAt_get ls k (i + 1) s hs, gsAt_get ls k i s hs]
    congr 1
    have hne : ls.getD s 0 = k → s ≠ i := fun h h2 => hk (h2 ▸ h)
    by_cases hc : (1 ≤ ls.getD s 0 ∧ ls.getD s 0 < k) ∨ (ls.getD s 0 = k ∧ s < i)
    · rw [if_pos hc, if_pos (by omega)]
    · rw [if_neg hc, if_neg (by intro h; apply hc; rcases h with h | h; exact .inl h; exact .inr ⟨h.1, by have := hne h.1; omega⟩)]
  · rw [List.getElem?_eq_none (by rw [gsAt_len]; omega), List.getElem?_eq_none (by rw [gsAt_len]; omega)]
theorem gsAt_next (ls : List Nat) (k : Nat) (hk : 1 ≤ k) : gsAt ls k ls.length = gsAt ls (k + 1) 0 := by
  apply List.ext_getElem?
  intro s
  by_cases hs : s < ls.length
  · rw [gsAt_get ls k _ s hs, gsAt_get ls (k + 1) 0 s hs]
    congr 1
    by_cases hc : (1 ≤ ls.getD s 0 ∧ ls.getD s 0 < k) ∨ (ls.getD s 0 = k ∧ s < ls.length)
    · rw [if_pos hc, if_pos (by omega)]
    · rw [if_neg hc, if_neg (by omega)]
  · rw [List.getElem?_eq_none (by rw [gsAt_len]; omega), List.getElem?_eq_none (by rw [gsAt_len]; omega)]
def codesR (ls : List Nat) : List Nat := gsAt ls 16 0
theorem ints_app (x y : List Nat) : ints (x ++ y) = ints x ++ ints y := List.map_append
theorem own_cell {k : IntKind} {e : TypeId} {w : World} {g n cap : Nat} {xs : List Int} (h : Own k e w (.slice (some ⟨g, 0, none⟩) n cap) xs) (i : Nat) (hi : i < n) : w.cell? ⟨g, i, none⟩ = some (.int k (xs.getD i 0)) ∧ w.frozen? ⟨g, i, none⟩ = false := by
  have hs := h.shape
  obtain ⟨a, c, hv, hsl, -⟩ := hs
  injection hv with e1 e2 e3
  subst e1
  obtain ⟨-, h2 | ⟨b, off, hb, hc⟩⟩ := hsl
  · omega
  cases hb
  refine ⟨by have := hc i (by omega); rwa [Nat.zero_add] at this, ?_⟩
  obtain ⟨-, h3⟩ := h
  rcases h3 with ⟨h4, -⟩ | ⟨g', cap', cur, h4, -, hg, -⟩
  · cases h4
  · cases h4
    exact blk_free hg i
theorem tinfoInt : (Try.prog.info? 3).map (fun i => (i.zero, i.size, i.bytes)) = some (some (.int .i64 0), 1, 8) := by kernel_rfl
set_option maxRecDepth 100000 in
set_option maxHeartbeats 16000000 in
theorem deal_any (W : World) (a : Nat) (cs : List Int) (ls : List Nat) (last : Int) (cv : Value) (la : Option Addr) (lc : Nat) (h : TOwn W a cs [] (List.replicate ls.length 0) ls last (.slice none 0 0) cv la lc) (hr : room ls ≤ 32768) (hlen : ls.length ≤ 320) (hls : ∀ c ∈ ls, c < 256) :
    Calls Try.prog 27 #[.pointer (some ⟨a, 0, none⟩)] W fun e w' => e = .returned (.tuple #[]) ∧ ∃ sv, TOwn w' a cs (srt ls 15) (codesR ls) ls last sv cv la lc ∧ Kept (fun i => i = a ∨ cv.ownBlock = some i) W w' ∧ ∀ b, sv.ownBlock = some b → W.heap.size ≤ b := by
  obtain ⟨n, hn⟩ : ∃ n, ls.length = n := ⟨_, rfl⟩
  have H := Lib.hid (And.intro h (And.intro hr (And.intro hls hn)))
  have hn320 : n ≤ 320 := by omega
  obtain ⟨i0, hi0, hz0, hz1, hz2⟩ := info_parts tinfoInt
  have HI := Lib.hid (And.intro hi0 (And.intro hz0 (And.intro hz1 hz2)))
  clear hi0 hz0 hz1 hz2 h hr hls hlen hn
  go_enter Try.func27, Try.ntmps27
  go_wp2
  go_loopg [2, 3, 4, 5, 15] 15 (fun gg dv kv _ _ _ wr => ∃ (j : Nat) (sv : Value), 15 ≤ gg + j ∧ j ≤ 15 ∧ kv = .int .i64 ((j + 1 : Nat) : Int) ∧ dv = .int .u32 (fst ls (j + 1) : Nat) ∧ TOwn wr a cs (srt ls j) (gsAt ls (j + 1) 0) ls last sv cv la lc ∧ Kept (fun i => i = a ∨ cv.ownBlock = some i) W wr ∧ ∀ b, sv.ownBlock = some b → W.heap.size ≤ b)
  case atStart => exact ⟨0, .slice none 0 0, by omega, by omega, rfl, rfl, by rw [gsAt_zero]; exact H.out.1, Kept.refl _ _, fun b hb => by cases hb⟩
  case round =>
    obtain ⟨j, sv, hgg, hj, rfl, rfl, hT, hk, hsb⟩ := hrel
    have HT := Lib.hid (And.intro hT (And.intro hk hsb))
    obtain ⟨k, hkj⟩ : ∃ k, j + 1 = k := ⟨_, rfl⟩
    rw [hkj] at HT ⊢
    have HKJ := Lib.hid hkj
    by_cases hj15 : j < 15
    · have gkl : decide ((k : Int) ≤ 15) = true := decide_eq_true (by omega)
      have gkl' : decide (k ≤ 15) = true := decide_eq_true (by omega)
      have hk15 : 1 ≤ k ∧ k ≤ 15 := by omega
      have c18 := hT.1.fl.1
      rw [H.out.2.2.2] at c18
      obtain ⟨F, hF⟩ : ∃ F, fst ls k = F := ⟨_, rfl⟩
      rw [hF]
      have hFl := fst_le H.out.2.1 k hk15.2
      rw [hF] at hFl
      have hF2 : F + cnt ls k ≤ 32768 := Nat.le_trans hFl (Nat.pow_le_pow_right (n := 2) (by omega) hk15.2)
      have HF := Lib.hid (And.intro hF hF2)
      obtain ⟨gkO, rfl⟩ : ∃ g, g = gk := ⟨_, rfl⟩
      clear hT hk hsb hkj hF hFl hF2
      go_wp2
      go_loopg [2, 4, 5, 15] n (fun gg dv _ _ iv wq => ∃ (i : Nat) (sv : Value), n ≤ gg + i ∧ i ≤ n ∧ iv = .int .i64 (i : Int) ∧ dv = .int .u32 (F + rank ls i k : Nat) ∧ TOwn wq a cs (srt ls j ++ syms ls k i) (gsAt ls k i) ls last sv cv la lc ∧ Kept (fun i => i = a ∨ cv.ownBlock = some i) W wq ∧ ∀ b, sv.ownBlock = some b → W.heap.size ≤ b)
      case atStart => exact ⟨0, sv, by omega, by omega, rfl, by simp [rank], by simpa [syms] using HT.out.1, HT.out.2.1, HT.out.2.2⟩
      case round =>
        obtain ⟨i, sv2, hgi, hin, rfl, rfl, hT, hk, hsb⟩ := hrel
        have HTI := Lib.hid (And.intro hT (And.intro hk hsb))
        have hrk : rank ls i k ≤ cnt ls k := by
          unfold cnt; rw [if_neg (by omega)]
          unfold rank
          exact List.Sublist.count_le _ (List.take_sublist _ _)
        obtain ⟨r, hr⟩ : ∃ r, rank ls i k = r := ⟨_, rfl⟩
        rw [hr] at hrk ⊢
        have hF2 := HF.out.2
        have hFr : F + r ≤ 32768 := by omega
        obtain ⟨CD, hCD⟩ : ∃ C, F + r = C := ⟨_, rfl⟩
        rw [hCD] at hFr ⊢
        have HCD := Lib.hid (And.intro hCD (And.intro hr hrk))
        clear hF2 hrk hr hCD
        by_cases hi : i < n
        · have gi : decide (i < n) = true := decide_eq_true hi
          obtain ⟨c, hcc⟩ : ∃ c, ls[i]? = some c := ⟨_, List.getElem?_eq_getElem (by rw [H.out.2.2.2]; exact hi)⟩
          have hgd : ls.getD i 0 = c := by rw [List.getD_eq_getElem?_getD, hcc]; rfl
          have hc256 := H.out.2.2.1 c (List.mem_of_getElem? hcc)
          obtain ⟨b, off, rfl, hcell⟩ := hT.2.2.2.1.2.resolve_left (by rw [H.out.2.2.2]; omega)
          have hci := hcell i (by rw [H.out.2.2.2]; exact hi)
          rw [ints_at hcc] at hci
          have wi : IntKind.i64.wrap ((i : Int) + 1) = (i : Int) + 1 := IntWalk.i64_in _ (by omega)
          have wc : IntKind.i64.wrap (c : Int) = (c : Int) := IntWalk.i64_in _ (by omega)
          have HCC := Lib.hid (And.intro hcc hgd)
          clear hcell
          by_cases hck : c = k
          · subst hck
            obtain ⟨sa, sc, hsv, hsl, -⟩ := hT.2.1.shape
            rw [ints_length] at hsv hsl
            subst hsv
            obtain ⟨SS, hSS⟩ : ∃ S, srt ls j ++ syms ls c i = S := ⟨_, rfl⟩
            rw [hSS] at HTI hT hsl
            obtain ⟨NS, hNS⟩ : ∃ m, SS.length = m := ⟨_, rfl⟩
            have hNSb : NS ≤ 100000 := by
              rw [← hNS, ← hSS, List.length_append, srt_len, syms_len ls c i (by rw [H.out.2.2.2]; omega)]
              have h1 : before ls (j + 1) ≤ 320 * 16 := by
                have key : ∀ m, m ≤ 16 → before ls m ≤ 320 * m := by
                  intro m
                  induction m with
                  | zero => intro _; exact Nat.le_refl _
                  | succ m ih =>
                    intro hm
                    rw [before]
                    have h2 : cnt ls m ≤ 320 := by
                      unfold cnt; split
                      · omega
                      · exact Nat.le_trans List.count_le_length (by rw [H.out.2.2.2]; exact hn320)
                    have := ih (by omega)
                    omega
                exact Nat.le_trans (key (j + 1) (by omega)) (by omega)
              have h2 : rank ls i c ≤ 320 := by
                unfold rank
                exact Nat.le_trans List.count_le_length (by rw [List.length_take, H.out.2.2.2]; omega)
              omega
            have c16 := hT.1.fs.1
            rw [hNS] at c16 HTI hT hsl
            have hwa : Kept (fun _ => False) wr (wr.alloc (.cells #[.int .i64 (i : Int)] 3)) := (Kept.refl _ _).alloc _
            have hTa := hT.grow hwa
            have ca16 := hTa.1.fs.1
            have hs1 : SlAt .i64 (wr.alloc (.cells #[.int .i64 (i : Int)] 3)) (some ⟨wr.heap.size, 0, none⟩) 1 [(i : Int)] := slAt_blk (blk_new wr _) rfl rfl
            have hoa := hTa.2.1
            have HNS := Lib.hid (And.intro hSS hNS)
            clear hT hTa hk hsb hSS hsl hNS hwa
            go_wp2_with (first
              | (at_builtin; refine wpList_appInts rfl (.tmp 28) (.tmp 30) 48 rfl 3 .i64 i0 (.int .i64 0) 8 Try.underlying48 HI.out.1 HI.out.2.1 HI.out.2.2.1 HI.out.2.2.2 rfl (.slice sa NS sc) (ints SS) rfl hoa (some ⟨wr.heap.size, 0, none⟩) 1 1 [(i : Int)] rfl (fun h => by cases h) hs1 (by rw [ints_length, HNS.out.2]; omega) (by rw [ints_length, HNS.out.2]; simp [maxLen]; omega) ?_; intro v5 w5 ho5 hk5 hpr5; obtain ⟨s5, c5, hv5e, -⟩ := ho5.shape; rw [show (ints SS ++ [(i : Int)]).length = NS + 1 by rw [List.length_append, ints_length, HNS.out.2]; rfl] at hv5e; subst hv5e; obtain ⟨c16v, c16f⟩ := ((HTI.out.1.1.kept ((Kept.refl (fun _ => False) wr).alloc (.cells #[.int .i64 (i : Int)] 3)) id).kept hk5 HTI.out.1.2.2.2.2.1).fs; obtain ⟨V, hV⟩ : ∃ V, w5.setCell ⟨a, 16, none⟩ (.slice s5 (NS + 1) c5) = V := ⟨_, rfl⟩; have H5 := Lib.hid (And.intro ho5 (And.intro hk5 (And.intro hpr5 hV))); clear ho5 hk5 hpr5))
            obtain ⟨ho5, hk5, hpr5, hVe⟩ := H5.out
            have hT6 := HTI.out.1.app (ss' := SS ++ [i]) ((Kept.refl _ _).alloc _) (by rw [ints_app]; exact ho5) hk5 hpr5
            rw [hVe] at hT6
            have hv5 : ∀ q, (Value.slice s5 (NS + 1) c5).ownBlock = some q → W.heap.size ≤ q := by
              intro q hq
              rcases hpr5 with h | h <;> rw [h] at hq
              · exact HTI.out.2.2 q hq
              · cases hq; have := HTI.out.2.1.size; simp; omega
            have hkV : Kept (fun i => i = a ∨ cv.ownBlock = some i) W V := HTI.out.2.1.trans (hT6.2.mono fun q _ hq => by rcases hq with hq | hq; exact .inl (.inl hq); exact .inr (HTI.out.2.2 q hq))
            obtain ⟨WR, hWR⟩ : ∃ WR, WR = V.drew := ⟨_, rfl⟩
            have hkR : Kept (fun _ => False) V WR := by rw [hWR]; exact (Kept.refl _ _).drew
            obtain ⟨g0, cp, hgv, hgl, hgm, hgn, hgn2, hgo⟩ := hT6.1.2.2.1.shape
            rw [ints_length, gsAt_len, H.out.2.2.2] at hgv hgl hgm
            obtain ⟨g, hg⟩ : ∃ g, g0 = some ⟨g, 0, none⟩ := by
              have h9 := hT6.1.2.2.1
              obtain ⟨h91, h92⟩ := h9
              rcases h92 with ⟨h93, h94⟩ | ⟨g, cap, cur, h93, -⟩
              · rw [ints_length, gsAt_len, H.out.2.2.2] at h94; omega
              · rw [hgv] at h93; injection h93 with e1; exact ⟨g, e1⟩
            subst hg
            have c17 := (hT6.1.1.kept hkR id).fc.1
            rw [hgv] at c17
            have X0 := cell_regrown c17
            obtain ⟨RV, hRV⟩ : ∃ R, rev CD c = R := ⟨_, rfl⟩
            obtain ⟨RC, hRC⟩ : ∃ R : Value → World → Prop, R = fun v _ => v = .int .u32 (RV : Int) := ⟨_, rfl⟩
            have hcall : ∀ w, Calls Try.prog 34 #[.int .u32 (CD : Int), .int .i64 (c : Int)] w fun e w' => e = .returned (.int .u32 (RV : Int)) ∧ w = w' := fun w => by have h9 := reverse_yes CD c w (by omega) (by omega); rw [hRV] at h9; exact h9
            have HCL := Lib.hid (And.intro hcall hRV)
            have HRC := Lib.hid hRC
            have HWR := Lib.hid hWR
            have HV := Lib.hid (And.intro hT6.1 (And.intro hkV (And.intro hv5 (And.intro hkR hgv))))
            clear hVe ho5 hk5 hpr5 hoa hs1 hT6 hv5 hkV hWR hkR hgv hgl hgm hgn hgn2 hgo c17 hcall hRV hRC
            go_wp2
            refine wp_region_grow #[0, 1, 3, 7, 0, 0, 0, 96, 255, 511] 9 [] (fun i => if i = 7 then some RC else none) (by kernel_rfl) rfl (by kernel_rfl) (fun i hi => by cases hi) (fun _ _ _ _ _ h => h) ?_
            rintro _ rfl
            rw [← HWR.out]
            simp only [List.take_succ_cons, List.take_zero, List.drop_succ_cons, List.drop_zero, number, Nat.reduceAdd]
            repeat (refine wpGrow_step (fun K hK => ?_); go_simp; refine hK _ _ ?_; clear hK K)
            refine wpGrow_step (fun K hK => ?_)
            go_simp
            refine ⟨fun w' hg => (HCL.out.1 w').mono (fun e w'' ⟨he, hw⟩ => ⟨_, he, by rw [hw]; exact Kept.refl _ _, by rw [HRC.out]⟩), fun v wv hv _ => ?_⟩
            rw [HRC.out] at hv
            subst hv
            refine hK _ _ ?_; clear hK K
            repeat (refine wpGrow_step (fun K hK => ?_); go_simp; refine hK _ _ ?_; clear hK K)
            refine wpGrow_nil ?_
            intro w9 hk9 hω
            have hT9 := (HV.out.1.grow HV.out.2.2.2.1).grow hk9
            have hoc := hT9.2.2.1
            rw [HV.out.2.2.2.2] at hoc
            obtain ⟨gc1, gc2⟩ := own_cell hoc i hi
            have hTU := hT9.code (g := g) (cap := cp) (by rw [gsAt_len, H.out.2.2.2]; exact HV.out.2.2.2.2) i RV (by rw [gsAt_len, H.out.2.2.2]; exact hi)
            obtain ⟨U, hU⟩ : ∃ U, w9.setCell ⟨g, i, none⟩ (.int .u32 (RV : Int)) = U := ⟨_, rfl⟩
            rw [hU] at hTU
            have hkU : Kept (fun i => i = a ∨ cv.ownBlock = some i) W U := HV.out.2.1.then (((HV.out.2.2.2.1.then hk9).mono fun _ _ h => h.elim).then (hTU.2.mono fun q _ hq => Or.inr hq))
            have wcd : IntKind.u32.wrap ((CD : Int) + 1) = (CD : Int) + 1 := IntWalk.u32_in _ (by omega)
            have HU := Lib.hid (show TOwn U a cs (srt ls j ++ syms ls c (i + 1)) (gsAt ls c (i + 1)) ls last (.slice s5 (NS + 1) c5) cv (some ⟨b, off, none⟩) lc ∧ Kept (fun i => i = a ∨ cv.ownBlock = some i) W U ∧ ∀ b, (Value.slice s5 (NS + 1) c5).ownBlock = some b → W.heap.size ≤ b from by
              refine ⟨?_, hkU, HV.out.2.2.1⟩
              have e1 : srt ls j ++ syms ls c (i + 1) = SS ++ [i] := by rw [syms_succ, if_pos HCC.out.2, ← HNS.out.1, List.append_assoc]
              have e2 : gsAt ls c (i + 1) = (gsAt ls c i).set i RV := by
                rw [← gsAt_set (by rw [H.out.2.2.2]; exact hi) HCC.out.2]
                congr 1
                have e3 : codeL ls i = CD := by
                  unfold codeL
                  rw [HCC.out.2, if_neg (by omega), HF.out.1, HCD.out.2.1, HCD.out.1]
                rw [e3, HCL.out.2]
              rw [e1, e2]
              exact hTU.1)
            have hrs := rank_succ HCC.out.1 c
            rw [if_pos rfl, HCD.out.2.1] at hrs
            have HRS := Lib.hid hrs
            clear hω hT9 hoc hTU hkU hk9 hrs X0
            go_wp2
            go_roundg (gk - 1)
            case rel => exact ⟨i + 1, .slice s5 (NS + 1) c5, by omega, by omega, by simp, by rw [HRS.out, ← HCD.out.1]; simp; omega, HU.out⟩
            case measure => omega
          · have g1 : ((c : Int) == (k : Int)) = false := by simpa using (fun h : (c : Int) = (k : Int) => hck (by omega))
            have g2 : (c == k) = false := by simpa using hck
            have g3 : decide (c = k) = false := decide_eq_false hck
            have g4 : decide ((c : Int) = (k : Int)) = false := decide_eq_false (fun h => hck (by omega))
            have hrs := rank_succ HCC.out.1 k
            rw [if_neg hck, HCD.out.2.1, Nat.add_zero] at hrs
            have HU := Lib.hid (show TOwn wr a cs (srt ls j ++ syms ls k (i + 1)) (gsAt ls k (i + 1)) ls last sv2 cv (some ⟨b, off, none⟩) lc from by
              rw [syms_succ, if_neg (by rw [HCC.out.2]; exact hck), List.append_nil, gsAt_skip (by rw [HCC.out.2]; exact hck)]
              exact HTI.out.1)
            have HRS := Lib.hid hrs
            clear hT hk hsb hrs hck hcc hgd
            go_wp2
            go_roundg (gk - 1)
            case rel => exact ⟨i + 1, sv2, by omega, by omega, by simp, by rw [HRS.out, ← HCD.out.1]; simp, HU.out, HTI.out.2⟩
            case measure => omega
        · obtain rfl : i = n := by omega
          have gi : decide (i < i) = false := decide_eq_false (by omega)
          have wk : IntKind.i64.wrap ((k : Int) + 1) = (k : Int) + 1 := IntWalk.i64_in _ (by omega)
          have hfs : fst ls (k + 1) = CD * 2 := by
            rw [fst, HF.out.1, ← HCD.out.1, ← HCD.out.2.1, rank_all ls i k (by rw [H.out.2.2.2]; exact Nat.le_refl _)]
            unfold cnt
            rw [if_neg (by omega)]
            omega
          have HFS := Lib.hid (And.intro hfs (show TOwn wr a cs (srt ls (j + 1)) (gsAt ls (k + 1) 0) ls last sv2 cv la lc from by
            have h9 := HTI.out.1
            rw [← H.out.2.2.2, gsAt_next ls k hk15.1] at h9
            have e : srt ls (j + 1) = srt ls j ++ syms ls k ls.length := by rw [srt, HKJ.out]
            rw [e]
            exact h9))
          have wsh : IntKind.u32.wrap ((CD : Int) * 2) = (CD : Int) * 2 := IntWalk.u32_in _ (by omega)
          clear hT hk hsb hfs
          go_wp2
          go_roundg (gkO - 1)
          case rel => exact ⟨j + 1, sv2, by omega, by omega, by have := HKJ.out; simp; omega, by have := HKJ.out; rw [this, HFS.out.1]; simp, by have h9 := HFS.out.2; rw [← HKJ.out] at h9; exact h9, HTI.out.2⟩
          case measure => omega
    · obtain rfl : j = 15 := by omega
      obtain rfl : k = 16 := by omega
      have gkl : decide ((16 : Int) ≤ 15) = false := by decide
      have gkl' : decide (16 ≤ 15) = false := by decide
      clear hT hk hsb
      go_wp2
      go_end0
      exact ⟨rfl, sv, HT.out.1, HT.out.2.1, HT.out.2.2⟩
end Go.Proofs.Ytndneidjnlammaa
