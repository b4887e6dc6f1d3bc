/- The document's table made: New. -/
import Derived.Test.YtndneidjnlammaaRNewP
namespace Go.Proofs.Ytndneidjnlammaa
open Go.RowKit Pl
set_option linter.unusedVariables false
set_option linter.unusedSimpArgs false
attribute [local go_sem] growOp growUpon sameUpon
/-- The codes when those ahead of length k are laid, and of length k those of the first i symbols. -/
def csAt (ls : List Nat) (k i : Nat) : List Nat := (List.range ls.length).map (fun s => if (1 ≤ ls.getD s 0 ∧ ls.getD s 0 < k) ∨ (ls.getD s 0 = k ∧ s < i) then codeL ls s else 0)
theorem csAt_len (ls : List Nat) (k i : Nat) : (csAt ls k i).length = ls.length := by simp [csAt]
theorem csAt_get (ls : List Nat) (k i s : Nat) (hs : s < ls.length) : (csAt ls k i)[s]? = some (if (1 ≤ ls.getD s 0 ∧ ls.getD s 0 < k) ∨ (ls.getD s 0 = k ∧ s < i) then codeL ls s else 0) := by
  unfold csAt
  rw [List.getElem?_map, List.getElem?_range hs]; rfl
theorem csAt_zero (ls : List Nat) : csAt ls 1 0 = List.replicate ls.length 0 := by
  apply List.ext_getElem?
  intro s
  by_cases hs : s < ls.length
  · rw [csAt_get ls 1 0 s hs, if_neg (by omega), List.getElem?_replicate, if_pos hs]
  · rw [List.getElem?_eq_none (by rw [csAt_len]; omega), List.getElem?_eq_none (by simp; omega)]
theorem csAt_set {ls : List Nat} {k i : Nat} (hi : i < ls.length) (hk : ls.getD i 0 = k) : (csAt ls k i).set i (codeL ls i) = csAt ls k (i + 1) := by
  apply List.ext_getElem?
  intro s
  by_cases hs : s < ls.length
  · rw [csAt_get ls k (i + 1) s hs, List.getElem?_set]
    by_cases h : i = s
    · subst h
      rw [if_pos rfl, if_pos (by rw [csAt_len]; exact hs), if_pos (by omega)]
    · rw [if_neg h, csAt_get ls k i s hs]
      congr 1
      by_cases hc : (1 ≤ ls.getD s 0 ∧ ls.getD s 0 < k) ∨ (ls.getD s 0 = k ∧ s < i)
      · rw [if_pos hc, if_pos (by omega)]
      · rw [if_neg hc, if_neg (by omega)]
  · rw [List.getElem?_eq_none (by rw [List.length_set, csAt_len]; omega), List.getElem?_eq_none (by rw [csAt_len]; omega)]
theorem csAt_skip {ls : List Nat} {k i : Nat} (hk : ls.getD i 0 ≠ k) : csAt ls k (i + 1) = csAt ls k i := by
  apply List.ext_getElem?
  intro s
  by_cases hs : s < ls.length
  · rw [csAt_get ls k (i + 1) s hs, csAt_get ls k i s hs]
    congr 1
    have hne : ls.getD s 0 = k → s ≠ i := fun h h2 => hk (h2 ▸ h)
    by_cases hc : (1 ≤ ls.getD s 0 ∧ ls.getD s 0 < k) ∨ (ls.getD s 0 = k ∧ s < i)
    · rw [if_pos hc, if_pos (by omega)]
    · rw [if_neg hc, if_neg (by intro h; apply hc; rcases h with h | h; exact .inl h; exact .inr ⟨h.1, by have := hne h.1; omega⟩)]
  · rw [List.getElem?_eq_none (by rw [csAt_len]; omega), List.getElem?_eq_none (by rw [csAt_len]; omega)]
theorem csAt_next (ls : List Nat) (k : Nat) (hk : 1 ≤ k) : csAt ls k ls.length = csAt ls (k + 1) 0 := by
  apply List.ext_getElem?
  intro s
  by_cases hs : s < ls.length
  · rw [csAt_get ls k _ s hs, csAt_get ls (k + 1) 0 s hs]
    congr 1
    by_cases hc : (1 ≤ ls.getD s 0 ∧ ls.getD s 0 < k) ∨ (ls.getD s 0 = k ∧ s < ls.length)
    · rw [if_pos hc, if_pos (by omega)]
    · rw [if_neg hc, if_neg (by omega)]
  · rw [List.getElem?_eq_none (by rw [csAt_len]; omega), List.getElem?_eq_none (by rw [csAt_len]; omega)]
def codesC (ls : List Nat) : List Nat := csAt ls 16 0
/-- The document's table with its rows. -/
def ROwn (W : World) (a : Nat) (gs ls : List Nat) (cv : Value) (la : Option Addr) (lc : Nat) : Prop :=
  W.heap[a]? = some (.cells #[.slice la ls.length lc, cv] 62 (0, 0)) ∧ Own .u32 28 W cv (ints gs) ∧ SlAt .u8 W la ls.length (ints ls) ∧ cv.ownBlock ≠ some a ∧
    ∀ b off, 0 < ls.length → la = some ⟨b, off, none⟩ → b ≠ a ∧ cv.ownBlock ≠ some b ∧ b < W.heap.size
theorem ROwn.grow {W w' : World} {a : Nat} {gs ls : List Nat} {cv : Value} {la : Option Addr} {lc : Nat} (h : ROwn W a gs ls cv la lc) (hk : Kept (fun _ => False) W w') : ROwn w' a gs ls cv la lc := by
  obtain ⟨h1, h2, h3, h4, h5⟩ := h
  exact ⟨hk.blk h1 id, h2.kept hk (fun _ _ => id), h3.kept hk (fun _ _ _ _ => id), h4, fun b off h0 h => by have := h5 b off h0 h; have := hk.size; exact ⟨(h5 b off h0 h).1, (h5 b off h0 h).2.1, by omega⟩⟩
theorem ROwn.code {W : World} {a : Nat} {gs ls : List Nat} {cv : Value} {la : Option Addr} {lc : Nat} (h : ROwn W a gs ls cv la lc) {g cap : Nat} (hcv : cv = .slice (some ⟨g, 0, none⟩) gs.length cap) (i u : Nat) (hi : i < gs.length) :
    ROwn (W.setCell ⟨g, i, none⟩ (.int .u32 u)) a (gs.set i u) ls cv la lc ∧ Kept (fun j => cv.ownBlock = some j) W (W.setCell ⟨g, i, none⟩ (.int .u32 u)) := by
  obtain ⟨h1, h2, h3, h4, h5⟩ := h
  have hog : cv.ownBlock = some g := by rw [hcv]; rfl
  have hk : Kept (fun j => j = g) W (W.setCell ⟨g, i, none⟩ (.int .u32 u)) := (Kept.refl (fun j => j = g) W).setCell (p := ⟨g, i, none⟩) (.inl rfl) _
  have hset : Own .u32 28 (W.setCell ⟨g, i, none⟩ (.int .u32 u)) cv (ints (gs.set i u)) := by
    have h9 : Own .u32 28 W (.slice (some ⟨g, 0, none⟩) gs.length cap) (ints gs) := by rw [← hcv]; exact h2
    have h10 := h9.set hi (u : Int)
    rw [← hcv] at h10
    have e : ints (gs.set i u) = (ints gs).set i (u : Int) := by unfold ints; rw [List.map_set]
    rw [e]; exact h10
  refine ⟨⟨hk.blk h1 (fun h => h4 (by rw [hog, h])), hset, h3.kept hk (fun b off h0 h h9 => (h5 b off h0 h).2.1 (by rw [hog, h9])), h4, fun b off h0 h => by obtain ⟨q1, q2, q3⟩ := h5 b off h0 h; exact ⟨q1, q2, by simpa using q3⟩⟩, hk.mono fun j _ (hj : j = g) => by rw [hog, hj]⟩
/-- What the document's New leaves. -/
def RNewPost (W : World) (ls : List Nat) (e : Ending) (w' : World) : Prop :=
  (newE ls ≠ 0 ∧ e = .returned (.tuple #[.pointer none, .int .i64 (newE ls)]) ∧ Kept (fun _ => False) W w') ∨
  (newE ls = 0 ∧ ∃ a cv la lc, e = .returned (.tuple #[.pointer (some ⟨a, 0, none⟩), .int .i64 0]) ∧ ROwn w' a (codesC ls) ls cv la lc ∧ Kept (fun _ => False) W w' ∧ W.heap.size ≤ a ∧ (∀ b, cv.ownBlock = some b → W.heap.size ≤ b) ∧ ∀ b off, 0 < ls.length → la = some ⟨b, off, none⟩ → W.heap.size ≤ b)
set_option maxRecDepth 100000 in
set_option maxHeartbeats 32000000 in
theorem rnew_any (a0 : Option Addr) (len cap : Nat) (ls : List Nat) (W : World) (hs : SlAt .u8 W a0 len (ints ls)) (hb : ∀ c ∈ ls, c < 256) (hl : len ≤ 320) (hnil : a0 = none → len = 0 ∧ cap = 0) :
    Calls Try.prog 12 #[.slice a0 len cap] W fun e w' => RNewPost W ls e w' := by
  have hll : ls.length = len := by rw [← hs.1, ints_length]
  have H := Lib.hid (And.intro hs (And.intro hb (And.intro hll hnil)))
  have g0 : decide ((320 : Int) < (len : Int)) = false := decide_eq_false (by omega)
  have g0' : decide (320 < len) = false := decide_eq_false (by omega)
  obtain ⟨i0, hi0, hz0, hz1, hz2⟩ := info_parts Try.infoByte
  have HI := Lib.hid (And.intro hi0 (And.intro hz0 (And.intro hz1 hz2)))
  obtain ⟨i1, hj0, hj1, hj2, hj3⟩ := info_parts tinfoU32
  have HJ := Lib.hid (And.intro hj0 (And.intro hj1 (And.intro hj2 hj3)))
  have HCM := Lib.hid (rcomplete_any a0 len cap ls W hs hb (by omega))
  obtain ⟨WR, hWR⟩ : ∃ WR, WR = W.drew := ⟨_, rfl⟩
  have hkR : Kept (fun _ => False) W WR := by rw [hWR]; exact (Kept.refl _ _).drew
  obtain ⟨RA, hRA⟩ : ∃ R : Value → World → Prop, R = fun v w' => ∃ q, v = .slice (some ⟨q, 0, none⟩) 0 0 := ⟨_, rfl⟩
  obtain ⟨RB, hRB⟩ : ∃ R : Value → World → Prop, R = fun v w' => ∃ la lc, v = .slice la len lc ∧ SlAt .u8 w' la len (ints ls) ∧ (∀ b off, 0 < len → la = some ⟨b, off, none⟩ → W.heap.size ≤ b ∧ ∃ cur, w'.heap[b]? = some (.cells cur 5 (0, 0))) ∧ (la = none → len = 0 ∧ lc = 0) := ⟨_, rfl⟩
  obtain ⟨RM, hRM⟩ : ∃ R : Value → World → Prop, R = fun v w' => ∃ m, v = .slice (some ⟨m, 0, none⟩) len len ∧ Own .u32 28 w' (.slice (some ⟨m, 0, none⟩) len len) (List.replicate len 0) ∧ W.heap.size ≤ m := ⟨_, rfl⟩
  obtain ⟨RT, hRT⟩ : ∃ R : Value → World → Prop, R = fun v w' => ∃ a m la lc, v = .pointer (some ⟨a, 0, none⟩) ∧ ROwn w' a (List.replicate ls.length 0) ls (.slice (some ⟨m, 0, none⟩) len len) la lc ∧ W.heap.size ≤ a ∧ W.heap.size ≤ m ∧ ∀ b off, 0 < len → la = some ⟨b, off, none⟩ → W.heap.size ≤ b := ⟨_, rfl⟩
  have HRA := Lib.hid hRA
  have HRT := Lib.hid hRT
  have HRB := Lib.hid hRB
  have HRM := Lib.hid hRM
  have HWR := Lib.hid hWR
  have HKR := Lib.hid hkR
  clear hs hb hll hnil hi0 hz0 hz1 hz2 hj0 hj1 hj2 hj3 hWR hkR hRA hRB hRM hRT
  go_enter Try.func12, Try.ntmps12
  go_wp2
  go_loopg [4, 5, 6] len (fun gg nv ov iv wr => ∃ i : Nat, len ≤ gg + i ∧ i ≤ len ∧ iv = .int .i64 (i : Int) ∧ nv = .int .i64 (nz (ls.take i) : Nat) ∧ ov = .int .i64 (lastNz (ls.take i) : Nat) ∧ (∀ c ∈ ls.take i, c ≤ 15) ∧ wr = W)
  case atStart => exact ⟨0, by omega, by omega, rfl, rfl, rfl, (fun c hc => by simp at hc), rfl⟩
  case round =>
    obtain ⟨i, hgg, hil, rfl, rfl, rfl, hc15, hwr⟩ := hrel
    obtain rfl : W = wr := hwr.symm
    have HT := Lib.hid hc15
    by_cases hi : i < len
    · have gi : decide (i < len) = true := decide_eq_true hi
      obtain ⟨c, hcc⟩ : ∃ c, ls[i]? = some c := ⟨_, List.getElem?_eq_getElem (by rw [H.out.2.2.1]; exact hi)⟩
      obtain ⟨b, off, rfl, hcell⟩ := H.out.1.2.resolve_left (by omega)
      have hci := hcell i hi
      rw [ints_at hcc] at hci
      have hc256 := H.out.2.1 c (List.mem_of_getElem? hcc)
      have wi : IntKind.i64.wrap ((i : Int) + 1) = (i : Int) + 1 := IntWalk.i64_in _ (by omega)
      have wc : IntKind.i64.wrap (c : Int) = (c : Int) := IntWalk.i64_in _ (by omega)
      have HCC := Lib.hid hcc
      have hnz := nz_snoc (ls.take i) c
      have hln := lastNz_snoc (ls.take i) c
      have hnb := nz_le (ls.take i)
      rw [List.length_take] at hnb
      rw [← take_snoc' hcc] at hnz hln
      obtain ⟨NZ, hNZ⟩ : ∃ n, nz (ls.take i) = n := ⟨_, rfl⟩
      obtain ⟨LZ, hLZ⟩ : ∃ n, lastNz (ls.take i) = n := ⟨_, rfl⟩
      rw [hNZ] at hnz hnb ⊢
      rw [hLZ] at hln ⊢
      have wn : IntKind.i64.wrap ((NZ : Int) + 1) = (NZ : Int) + 1 := IntWalk.i64_in _ (by omega)
      have HNZ := Lib.hid (And.intro hnz hln)
      clear hcell hcc hc15 hnz hln hNZ hLZ
      by_cases hbig : 15 < c
      · have g1 : decide (15 < c) = true := decide_eq_true hbig
        have g1' : decide ((15 : Int) < (c : Int)) = true := decide_eq_true (by omega)
        go_wp2
        refine bodyPost_ret (v := .tuple #[.pointer none, .int .i64 1]) (by simp [results, Try.results12, go_sem]) rfl ?_
        have e1 := any_of (List.mem_of_getElem? HCC.out) hbig
        left
        rw [e1]
        exact ⟨by decide, rfl, Kept.refl _ _⟩
      · have g1 : decide (15 < c) = false := decide_eq_false hbig
        have g1' : decide ((15 : Int) < (c : Int)) = false := decide_eq_false (by omega)
        have hall : ∀ x ∈ ls.take (i + 1), x ≤ 15 := by
          rw [take_snoc' HCC.out]
          intro x hx
          rcases List.mem_append.1 hx with h | h
          · exact HT.out x h
          · have : x = c := by simpa using h
            omega
        have HALL := Lib.hid hall
        clear hall
        by_cases hc0 : c = 0
        · subst hc0
          go_wp2
          go_roundg (gk - 1)
          case rel => exact ⟨i + 1, by omega, by omega, by simp, by rw [HNZ.out.1]; simp, by rw [HNZ.out.2]; simp, HALL.out, rfl⟩
          case measure => omega
        · have g2 : decide (0 < c) = true := decide_eq_true (by omega)
          have g2' : decide ((0 : Int) < (c : Int)) = true := decide_eq_true (by omega)
          have hcp : 0 < c := by omega
          go_wp2
          go_roundg (gk - 1)
          case rel => exact ⟨i + 1, by omega, by omega, by simp, by rw [HNZ.out.1, if_pos hcp]; simp, by rw [HNZ.out.2, if_pos hcp], HALL.out, rfl⟩
          case measure => omega
    · obtain rfl : len = i := by omega
      have gi : decide (len < len) = false := decide_eq_false (by omega)
      have e : ls.take len = ls := List.take_of_length_le (by rw [H.out.2.2.1]; exact Nat.le_refl _)
      rw [e] at HT ⊢
      clear e hc15
      have hne := any_no HT.out
      have hok := ok_ref ls HT.out
      obtain ⟨CV, hCV⟩ : ∃ c, complete ls = c := ⟨_, rfl⟩
      obtain ⟨NZ, hNZ⟩ : ∃ n, nz ls = n := ⟨_, rfl⟩
      obtain ⟨LZ, hLZ⟩ : ∃ n, lastNz ls = n := ⟨_, rfl⟩
      rw [hCV] at HCM
      rw [hCV, hNZ, hLZ] at hok
      rw [hNZ, hLZ]
      have HN := Lib.hid (And.intro hne hok)
      clear hne hok hCV hNZ hLZ
      by_cases b1 : 0 < CV
      · have k1 : decide (0 < CV) = true := decide_eq_true b1
        have HOK := Lib.hid (show okTab ls = false by rw [HN.out.2, k1]; rfl)
        go_wp2_with fail
        refine HCM.out.mono ?_
        rintro e w11 ⟨rfl, hw11⟩
        obtain rfl : W = w11 := hw11.symm
        go_wp2
        refine bodyPost_ret (v := .tuple #[.pointer none, .int .i64 3]) (by simp [results, Try.results12, go_sem]) rfl ?_
        left
        rw [HN.out.1, if_neg (by rw [HOK.out]; decide)]
        exact ⟨by decide, rfl, Kept.refl _ _⟩
      have k1 : decide (0 < CV) = false := decide_eq_false b1
      by_cases b2 : CV < 0
      · have k2 : decide (CV < 0) = true := decide_eq_true b2
        by_cases b3 : 0 < NZ
        · have k3 : decide (0 < NZ) = true := decide_eq_true b3
          have k3' : decide ((0 : Int) < (NZ : Int)) = true := decide_eq_true (by omega)
          by_cases b4 : NZ = 1
          · subst b4
            by_cases b5 : LZ = 1
            · subst b5
              have HOK := Lib.hid (show okTab ls = true by rw [HN.out.2, k1, k2]; decide)
              go_wp2_with fail
              refine HCM.out.mono ?_
              rintro e w11 ⟨rfl, hw11⟩
              obtain rfl : W = w11 := hw11.symm
              go_wp2
              refine wp_region_grow #[0, 0, 3, 0, 8, 24, 63, 127, 255] 9 [] (fun i => if i = 0 then some RA else if i = 2 then some RB else if i = 5 then some RM else if i = 7 then some RT else none) (by kernel_rfl) rfl (by kernel_rfl) (fun i hi => by cases hi) (fun _ _ _ _ _ h => h) ?_
              rintro _ rfl
              rw [← HWR.out]
              simp only [List.take_succ_cons, List.take_zero, List.drop_succ_cons, List.drop_zero, number, Nat.reduceAdd]
              refine wpGrow_step (fun K hK => ?_)
              go_simp
              refine ⟨fun w' hg => ⟨(Kept.refl _ _).alloc _, by rw [HRA.out]; exact ⟨_, rfl⟩⟩, fun v wv hv _ => ?_⟩
              rw [HRA.out] at hv
              obtain ⟨q, rfl⟩ := hv
              refine hK _ _ ?_; clear hK K
              refine wpGrow_step (fun K hK => ?_); go_simp; refine hK _ _ ?_; clear hK K
              refine wpGrow_step (fun K hK => ?_)
              refine growOp_told rfl rfl (fun w' hg => ?_) (fun v wv2 hv _ => ?_)
              · obtain ⟨la, lc, w3, hr, h1, h2, h3, -, h4⟩ := app_empty (P := Try.prog) (w := w') 22 22 5 i0 Try.underlying22 HI.out.1 HI.out.2.1 HI.out.2.2.1 HI.out.2.2.2 q a0 len cap (ints ls) (H.out.1.kept (HKR.out.then hg.old) (fun _ _ _ _ => id)) H.out.2.2.2 (by have := H.out.2.2.1; omega)
                refine upon_append (.tmp 59) (.tmp 60) 22 rfl rfl rfl hr h2 ?_
                rw [HRB.out]
                exact ⟨la, lc, rfl, h1, fun b off h0 h => ⟨by have := h3 b off h0 h; have := (HKR.out.then hg.old).size; omega, (h3 b off h0 h).2⟩, h4⟩
              rw [HRB.out] at hv
              obtain ⟨la, lc, rfl, hvb⟩ := hv
              have HVB := Lib.hid hvb
              clear hvb
              go_simp
              refine hK _ _ ?_; clear hK K
              refine wpGrow_step (fun K hK => ?_); go_simp; refine hK _ _ ?_; clear hK K
              refine wpGrow_step (fun K hK => ?_); go_simp; refine hK _ _ ?_; clear hK K
              refine wpGrow_step (fun K hK => ?_)
              refine growOp_told rfl rfl (fun w' hg => ?_) (fun v wv5 hv _ => ?_)
              · obtain ⟨w3, hr, h1, h2⟩ := run_make_full (P := Try.prog) w' 0 57 28 i1 (.int .u32 0) 1 Try.underlying57 HJ.out.1 HJ.out.2.1 HJ.out.2.2.1 .i64 .i64 len (by rw [HJ.out.2.2.2]; omega) (by simp [maxLen]; omega) (Nat.zero_le _)
                refine upon_make (.tmp 63) (.tmp 63) 57 rfl rfl rfl hr ((Kept.refl _ _).grown h2 (fun k h => by cases h)) ?_
                rw [HRM.out]
                have e1 : (madeCells (Value.int .u32 0).cells (len * 1)).toList = (List.replicate len (0 : Int)).map (Value.int .u32) := by
                  rw [Nat.mul_one, List.map_replicate]; exact toList_madeCells_one _ _
                rw [e1] at h1
                exact ⟨_, rfl, by unfold Own; rw [List.length_replicate]; exact h1, (HKR.out.then hg.old).size⟩
              rw [HRM.out] at hv
              obtain ⟨m, rfl, hvm⟩ := hv
              have HVM := Lib.hid hvm
              clear hvm
              go_simp
              refine hK _ _ ?_; clear hK K
              refine wpGrow_step (fun K hK => ?_); go_simp; refine hK _ _ ?_; clear hK K
              refine wpGrow_step (fun K hK => ?_)
              go_simp
              refine ⟨fun w' hg => ⟨(Kept.refl _ _).alloc _, ?_⟩, fun v wv7 hv _ => ?_⟩
              · rw [HRT.out]
                have hk2 : Kept (fun _ => False) wv2 w' := hg.seen 2 (by kernel_rfl)
                have hk5 : Kept (fun _ => False) wv5 w' := hg.seen 5 (by kernel_rfl)
                have hkW := HKR.out.then hg.old
                have hka : Kept (fun _ => False) w' (w'.alloc (.cells #[.slice la len lc, .slice (some ⟨m, 0, none⟩) len len] 62)) := (Kept.refl _ _).alloc _
                obtain ⟨b1, b2, b3⟩ := HVB.out
                obtain ⟨m1, m2⟩ := HVM.out
                have hmw : m < w'.heap.size := Nat.lt_of_lt_of_le (m1.lt m rfl) hk5.size
                refine ⟨w'.heap.size, m, la, lc, rfl, ⟨?_, ?_, ?_, ?_, ?_⟩, hkW.size, m2, fun b off h0 h => (b2 b off h0 h).1⟩
                · rw [H.out.2.2.1]
                  exact blk_new w' _
                · rw [H.out.2.2.1]
                  have e : ints (List.replicate len 0) = List.replicate len 0 := by unfold ints; rw [List.map_replicate]; rfl
                  rw [e]
                  exact (m1.kept hk5 (fun _ _ => id)).kept hka (fun _ _ => id)
                · rw [H.out.2.2.1]
                  exact (b1.kept hk2 (fun _ _ _ _ => id)).kept hka (fun _ _ _ _ => id)
                · intro h; have h9 : some m = some w'.heap.size := h; have := Option.some.inj h9; omega
                · intro b off h0 h
                  rw [H.out.2.2.1] at h0
                  obtain ⟨q1, cur, q2⟩ := b2 b off h0 h
                  have q3 := hk2.blk q2 id
                  have q4 := lt_of_blk q3
                  refine ⟨by omega, ?_, by simp; omega⟩
                  intro h9
                  cases h9
                  obtain ⟨-, h2⟩ := m1.kept hk5 (fun _ _ => id)
                  rcases h2 with ⟨h3, -⟩ | ⟨g, cp, cur2, h3, -, hg2, -⟩
                  · cases h3
                  · injection h3 with e1 e2 e3
                    injection e1 with e1
                    injection e1 with e1
                    rw [← e1, q3] at hg2
                    cases hg2
              rw [HRT.out] at hv
              obtain ⟨a, m', la', lc', rfl, hT, hWa, hWm, hWl⟩ := hv
              refine hK _ _ ?_; clear hK K
              refine wpGrow_step (fun K hK => ?_); go_simp; refine hK _ _ ?_; clear hK K
              refine wpGrow_nil ?_
              intro w9 hk9 hω
              have hT9 := hT.grow (show Kept (fun _ => False) wv7 w9 from hω 7)
              have H9 := Lib.hid (And.intro hT9 (And.intro (HKR.out.then hk9) (And.intro hWa (And.intro hWm hWl))))
              clear hT hT9 hk9 hω hWa hWm hWl
              have HRO := Lib.hid (okTab_le HOK.out)
              go_wp2
              go_loopg [9, 10, 11] 15 (fun gg dv kv _ wq => ∃ j : Nat, 15 ≤ gg + j ∧ j ≤ 15 ∧ kv = .int .i64 ((j + 1 : Nat) : Int) ∧ dv = .int .u32 (fst ls (j + 1) : Nat) ∧ ROwn wq a (csAt ls (j + 1) 0) ls (.slice (some ⟨m', 0, none⟩) len len) la' lc' ∧ Kept (fun _ => False) W wq)
              case atStart => exact ⟨0, by omega, by omega, rfl, rfl, by rw [csAt_zero]; exact H9.out.1, H9.out.2.1⟩
              case round =>
                obtain ⟨j, hgg, hj, rfl, rfl, hT, hk⟩ := hrel
                have HTJ := Lib.hid (And.intro hT hk)
                obtain ⟨k, hkj⟩ : ∃ k, j + 1 = k := ⟨_, rfl⟩
                rw [hkj] at HTJ ⊢
                have HKJ := Lib.hid hkj
                by_cases hj15 : j < 15
                · have gkl : decide ((k : Int) ≤ 15) = true := decide_eq_true (by omega)
                  have gkl' : decide (k ≤ 15) = true := decide_eq_true (by omega)
                  have hk15 : 1 ≤ k ∧ k ≤ 15 := by omega
                  obtain ⟨F, hF⟩ : ∃ F, fst ls k = F := ⟨_, rfl⟩
                  rw [hF]
                  have hFl := fst_le HRO.out k hk15.2
                  rw [hF] at hFl
                  have hF2 : F + cnt ls k ≤ 32768 := Nat.le_trans hFl (Nat.pow_le_pow_right (n := 2) (by omega) hk15.2)
                  have HF := Lib.hid (And.intro hF hF2)
                  obtain ⟨gkO, rfl⟩ : ∃ g, g = gk := ⟨_, rfl⟩
                  clear hT hk hkj hF hFl hF2
                  go_wp2
                  go_loopg [9, 11] len (fun gg dv iv wq => ∃ i : Nat, len ≤ gg + i ∧ i ≤ len ∧ iv = .int .i64 (i : Int) ∧ dv = .int .u32 (F + rank ls i k : Nat) ∧ ROwn wq a (csAt ls k i) ls (.slice (some ⟨m', 0, none⟩) len len) la' lc' ∧ Kept (fun _ => False) W wq)
                  case atStart => exact ⟨0, by omega, by omega, rfl, by simp [rank], HTJ.out.1, HTJ.out.2⟩
                  case round =>
                    obtain ⟨i, hgi, hin, rfl, rfl, hT, hk⟩ := hrel
                    have HTI := Lib.hid (And.intro hT hk)
                    have hrk : rank ls i k ≤ cnt ls k := by
                      unfold cnt; rw [if_neg (by omega)]
                      unfold rank
                      exact List.Sublist.count_le _ (List.take_sublist _ _)
                    obtain ⟨r, hr⟩ : ∃ r, rank ls i k = r := ⟨_, rfl⟩
                    rw [hr] at hrk ⊢
                    have hF2 := HF.out.2
                    have hFr : F + r ≤ 32768 := by omega
                    obtain ⟨CD, hCD⟩ : ∃ C, F + r = C := ⟨_, rfl⟩
                    rw [hCD] at hFr ⊢
                    have HCD := Lib.hid (And.intro hCD (And.intro hr hrk))
                    clear hF2 hrk hr hCD
                    by_cases hi : i < len
                    · have gi : decide (i < len) = true := decide_eq_true hi
                      obtain ⟨c, hcc⟩ : ∃ c, ls[i]? = some c := ⟨_, List.getElem?_eq_getElem (by rw [H.out.2.2.1]; exact hi)⟩
                      have hgd : ls.getD i 0 = c := by rw [List.getD_eq_getElem?_getD, hcc]; rfl
                      have hc256 := H.out.2.1 c (List.mem_of_getElem? hcc)
                      obtain ⟨b, off, rfl, hcell⟩ := H.out.1.2.resolve_left (by omega)
                      have hci := hk.cell (hcell i hi) id
                      rw [ints_at hcc] at hci
                      have wi : IntKind.i64.wrap ((i : Int) + 1) = (i : Int) + 1 := IntWalk.i64_in _ (by omega)
                      have wc : IntKind.i64.wrap (c : Int) = (c : Int) := IntWalk.i64_in _ (by omega)
                      have HCC := Lib.hid (And.intro hcc hgd)
                      clear hcell
                      by_cases hck : c = k
                      · subst hck
                        obtain ⟨⟨z1, -⟩, z2, -⟩ := blk2 hT.1
                        obtain ⟨y1, y2⟩ := own_cell hT.2.1 i hi
                        have hTU := hT.code (g := m') (cap := len) (by rw [csAt_len, H.out.2.2.1]) i CD (by rw [csAt_len, H.out.2.2.1]; exact hi)
                        obtain ⟨U, hU⟩ : ∃ U, wr.setCell ⟨m', i, none⟩ (.int .u32 (CD : Int)) = U := ⟨_, rfl⟩
                        rw [hU] at hTU
                        have wcd : IntKind.u32.wrap ((CD : Int) + 1) = (CD : Int) + 1 := IntWalk.u32_in _ (by omega)
                        have HU := Lib.hid (show ROwn U a (csAt ls c (i + 1)) ls (.slice (some ⟨m', 0, none⟩) len len) la' lc' ∧ Kept (fun _ => False) W U from by
                          refine ⟨?_, hk.trans (hTU.2.mono fun j _ hj => Or.inr (by cases hj; exact H9.out.2.2.2.1))⟩
                          have e2 : csAt ls c (i + 1) = (csAt ls c i).set i CD := by
                            rw [← csAt_set (by rw [H.out.2.2.1]; exact hi) HCC.out.2]
                            congr 1
                            unfold codeL
                            rw [HCC.out.2, if_neg (by omega), HF.out.1, HCD.out.2.1, HCD.out.1]
                          rw [e2]
                          exact hTU.1)
                        have hrs := rank_succ HCC.out.1 c
                        rw [if_pos rfl, HCD.out.2.1] at hrs
                        have HRS := Lib.hid hrs
                        clear hT hk hTU hrs hcc hgd
                        go_wp2
                        go_roundg (gk - 1)
                        case rel => exact ⟨i + 1, by omega, by omega, by simp, by rw [HRS.out, ← HCD.out.1]; simp; omega, HU.out⟩
                        case measure => omega
                      · have g1 : ((c : Int) == (k : Int)) = false := by simpa using (fun h : (c : Int) = (k : Int) => hck (by omega))
                        have g2 : (c == k) = false := by simpa using hck
                        have g3 : decide (c = k) = false := decide_eq_false hck
                        have g4 : decide ((c : Int) = (k : Int)) = false := decide_eq_false (fun h => hck (by omega))
                        have hrs := rank_succ HCC.out.1 k
                        rw [if_neg hck, HCD.out.2.1, Nat.add_zero] at hrs
                        have HU := Lib.hid (show ROwn wr a (csAt ls k (i + 1)) ls (.slice (some ⟨m', 0, none⟩) len len) la' lc' from by
                          rw [csAt_skip (by rw [HCC.out.2]; exact hck)]
                          exact HTI.out.1)
                        have HRS := Lib.hid hrs
                        clear hT hk hrs hck hcc hgd
                        go_wp2
                        go_roundg (gk - 1)
                        case rel => exact ⟨i + 1, by omega, by omega, by simp, by rw [HRS.out, ← HCD.out.1]; simp, HU.out, HTI.out.2⟩
                        case measure => omega
                    · obtain rfl : i = len := by omega
                      have gi : decide (i < i) = false := decide_eq_false (by omega)
                      have wk : IntKind.i64.wrap ((k : Int) + 1) = (k : Int) + 1 := IntWalk.i64_in _ (by omega)
                      have hfs : fst ls (k + 1) = CD * 2 := by
                        rw [fst, HF.out.1, ← HCD.out.1, ← HCD.out.2.1, rank_all ls i k (by rw [H.out.2.2.1]; exact Nat.le_refl _)]
                        unfold cnt
                        rw [if_neg (by omega)]
                        omega
                      have HFS := Lib.hid (And.intro hfs (show ROwn wr a (csAt ls (k + 1) 0) ls (.slice (some ⟨m', 0, none⟩) i i) la' lc' from by
                        have h9 := HTI.out.1
                        have e : i = ls.length := H.out.2.2.1.symm
                        rw [show csAt ls k i = csAt ls (k + 1) 0 by rw [e]; exact csAt_next ls k hk15.1] at h9
                        exact h9))
                      have wsh : IntKind.u32.wrap ((CD : Int) * 2) = (CD : Int) * 2 := IntWalk.u32_in _ (by omega)
                      clear hT hk hfs
                      go_wp2
                      go_roundg (gkO - 1)
                      case rel => exact ⟨j + 1, by omega, by omega, by have := HKJ.out; simp; omega, by have := HKJ.out; rw [this, HFS.out.1]; simp, by have h9 := HFS.out.2; rw [← HKJ.out] at h9; exact h9, HTI.out.2⟩
                      case measure => omega
                · obtain rfl : j = 15 := by omega
                  obtain rfl : k = 16 := by omega
                  have gkl : decide ((16 : Int) ≤ 15) = false := by decide
                  have gkl' : decide (16 ≤ 15) = false := by decide
                  clear hT hk
                  go_wp2
                  refine bodyPost_ret (v := .tuple #[.pointer (some ⟨a, 0, none⟩), .int .i64 0]) (by simp [results, Try.results12, go_sem]) rfl ?_
                  right
                  refine ⟨by rw [HN.out.1, if_pos HOK.out], a, _, la', lc', rfl, HTJ.out.1, HTJ.out.2, H9.out.2.2.1, fun b hb => ?_, fun b off h0 h => H9.out.2.2.2.2 b off (by rw [← H.out.2.2.1]; exact h0) h⟩
                  cases hb; exact H9.out.2.2.2.1
            · have k5 : ((LZ : Int) == 1) = false := by simp; omega
              have HOK := Lib.hid (show okTab ls = false by rw [HN.out.2, k1, k2, decide_eq_false b5]; decide)
              go_wp2_with fail
              refine HCM.out.mono ?_
              rintro e w11 ⟨rfl, hw11⟩
              obtain rfl : W = w11 := hw11.symm
              go_wp2
              refine bodyPost_ret (v := .tuple #[.pointer none, .int .i64 3]) (by simp [results, Try.results12, go_sem]) rfl ?_
              left
              rw [HN.out.1, if_neg (by rw [HOK.out]; decide)]
              exact ⟨by decide, rfl, Kept.refl _ _⟩
          · have k4 : ((NZ : Int) == 1) = false := by simp; omega
            have HOK := Lib.hid (show okTab ls = false by rw [HN.out.2, k1, k2, k3, decide_eq_false b4]; rfl)
            go_wp2_with fail
            refine HCM.out.mono ?_
            rintro e w11 ⟨rfl, hw11⟩
            obtain rfl : W = w11 := hw11.symm
            go_wp2
            refine bodyPost_ret (v := .tuple #[.pointer none, .int .i64 3]) (by simp [results, Try.results12, go_sem]) rfl ?_
            left
            rw [HN.out.1, if_neg (by rw [HOK.out]; decide)]
            exact ⟨by decide, rfl, Kept.refl _ _⟩
        · have k3 : decide (0 < NZ) = false := decide_eq_false b3
          have k3' : decide ((0 : Int) < (NZ : Int)) = false := decide_eq_false (by omega)
          have HOK := Lib.hid (show okTab ls = true by rw [HN.out.2, k1, k2, k3]; rfl)
          go_wp2_with fail
          refine HCM.out.mono ?_
          rintro e w11 ⟨rfl, hw11⟩
          obtain rfl : W = w11 := hw11.symm
          go_wp2
          refine wp_region_grow #[0, 0, 3, 0, 8, 24, 63, 127, 255] 9 [] (fun i => if i = 0 then some RA else if i = 2 then some RB else if i = 5 then some RM else if i = 7 then some RT else none) (by kernel_rfl) rfl (by kernel_rfl) (fun i hi => by cases hi) (fun _ _ _ _ _ h => h) ?_
          rintro _ rfl
          rw [← HWR.out]
          simp only [List.take_succ_cons, List.take_zero, List.drop_succ_cons, List.drop_zero, number, Nat.reduceAdd]
          refine wpGrow_step (fun K hK => ?_)
          go_simp
          refine ⟨fun w' hg => ⟨(Kept.refl _ _).alloc _, by rw [HRA.out]; exact ⟨_, rfl⟩⟩, fun v wv hv _ => ?_⟩
          rw [HRA.out] at hv
          obtain ⟨q, rfl⟩ := hv
          refine hK _ _ ?_; clear hK K
          refine wpGrow_step (fun K hK => ?_); go_simp; refine hK _ _ ?_; clear hK K
          refine wpGrow_step (fun K hK => ?_)
          refine growOp_told rfl rfl (fun w' hg => ?_) (fun v wv2 hv _ => ?_)
          · obtain ⟨la, lc, w3, hr, h1, h2, h3, -, h4⟩ := app_empty (P := Try.prog) (w := w') 22 22 5 i0 Try.underlying22 HI.out.1 HI.out.2.1 HI.out.2.2.1 HI.out.2.2.2 q a0 len cap (ints ls) (H.out.1.kept (HKR.out.then hg.old) (fun _ _ _ _ => id)) H.out.2.2.2 (by have := H.out.2.2.1; omega)
            refine upon_append (.tmp 59) (.tmp 60) 22 rfl rfl rfl hr h2 ?_
            rw [HRB.out]
            exact ⟨la, lc, rfl, h1, fun b off h0 h => ⟨by have := h3 b off h0 h; have := (HKR.out.then hg.old).size; omega, (h3 b off h0 h).2⟩, h4⟩
          rw [HRB.out] at hv
          obtain ⟨la, lc, rfl, hvb⟩ := hv
          have HVB := Lib.hid hvb
          clear hvb
          go_simp
          refine hK _ _ ?_; clear hK K
          refine wpGrow_step (fun K hK => ?_); go_simp; refine hK _ _ ?_; clear hK K
          refine wpGrow_step (fun K hK => ?_); go_simp; refine hK _ _ ?_; clear hK K
          refine wpGrow_step (fun K hK => ?_)
          refine growOp_told rfl rfl (fun w' hg => ?_) (fun v wv5 hv _ => ?_)
          · obtain ⟨w3, hr, h1, h2⟩ := run_make_full (P := Try.prog) w' 0 57 28 i1 (.int .u32 0) 1 Try.underlying57 HJ.out.1 HJ.out.2.1 HJ.out.2.2.1 .i64 .i64 len (by rw [HJ.out.2.2.2]; omega) (by simp [maxLen]; omega) (Nat.zero_le _)
            refine upon_make (.tmp 63) (.tmp 63) 57 rfl rfl rfl hr ((Kept.refl _ _).grown h2 (fun k h => by cases h)) ?_
            rw [HRM.out]
            have e1 : (madeCells (Value.int .u32 0).cells (len * 1)).toList = (List.replicate len (0 : Int)).map (Value.int .u32) := by
              rw [Nat.mul_one, List.map_replicate]; exact toList_madeCells_one _ _
            rw [e1] at h1
            exact ⟨_, rfl, by unfold Own; rw [List.length_replicate]; exact h1, (HKR.out.then hg.old).size⟩
          rw [HRM.out] at hv
          obtain ⟨m, rfl, hvm⟩ := hv
          have HVM := Lib.hid hvm
          clear hvm
          go_simp
          refine hK _ _ ?_; clear hK K
          refine wpGrow_step (fun K hK => ?_); go_simp; refine hK _ _ ?_; clear hK K
          refine wpGrow_step (fun K hK => ?_)
          go_simp
          refine ⟨fun w' hg => ⟨(Kept.refl _ _).alloc _, ?_⟩, fun v wv7 hv _ => ?_⟩
          · rw [HRT.out]
            have hk2 : Kept (fun _ => False) wv2 w' := hg.seen 2 (by kernel_rfl)
            have hk5 : Kept (fun _ => False) wv5 w' := hg.seen 5 (by kernel_rfl)
            have hkW := HKR.out.then hg.old
            have hka : Kept (fun _ => False) w' (w'.alloc (.cells #[.slice la len lc, .slice (some ⟨m, 0, none⟩) len len] 62)) := (Kept.refl _ _).alloc _
            obtain ⟨b1, b2, b3⟩ := HVB.out
            obtain ⟨m1, m2⟩ := HVM.out
            have hmw : m < w'.heap.size := Nat.lt_of_lt_of_le (m1.lt m rfl) hk5.size
            refine ⟨w'.heap.size, m, la, lc, rfl, ⟨?_, ?_, ?_, ?_, ?_⟩, hkW.size, m2, fun b off h0 h => (b2 b off h0 h).1⟩
            · rw [H.out.2.2.1]
              exact blk_new w' _
            · rw [H.out.2.2.1]
              have e : ints (List.replicate len 0) = List.replicate len 0 := by unfold ints; rw [List.map_replicate]; rfl
              rw [e]
              exact (m1.kept hk5 (fun _ _ => id)).kept hka (fun _ _ => id)
            · rw [H.out.2.2.1]
              exact (b1.kept hk2 (fun _ _ _ _ => id)).kept hka (fun _ _ _ _ => id)
            · intro h; have h9 : some m = some w'.heap.size := h; have := Option.some.inj h9; omega
            · intro b off h0 h
              rw [H.out.2.2.1] at h0
              obtain ⟨q1, cur, q2⟩ := b2 b off h0 h
              have q3 := hk2.blk q2 id
              have q4 := lt_of_blk q3
              refine ⟨by omega, ?_, by simp; omega⟩
              intro h9
              cases h9
              obtain ⟨-, h2⟩ := m1.kept hk5 (fun _ _ => id)
              rcases h2 with ⟨h3, -⟩ | ⟨g, cp, cur2, h3, -, hg2, -⟩
              · cases h3
              · injection h3 with e1 e2 e3
                injection e1 with e1
                injection e1 with e1
                rw [← e1, q3] at hg2
                cases hg2
          rw [HRT.out] at hv
          obtain ⟨a, m', la', lc', rfl, hT, hWa, hWm, hWl⟩ := hv
          refine hK _ _ ?_; clear hK K
          refine wpGrow_step (fun K hK => ?_); go_simp; refine hK _ _ ?_; clear hK K
          refine wpGrow_nil ?_
          intro w9 hk9 hω
          have hT9 := hT.grow (show Kept (fun _ => False) wv7 w9 from hω 7)
          have H9 := Lib.hid (And.intro hT9 (And.intro (HKR.out.then hk9) (And.intro hWa (And.intro hWm hWl))))
          clear hT hT9 hk9 hω hWa hWm hWl
          have HRO := Lib.hid (okTab_le HOK.out)
          go_wp2
          go_loopg [9, 10, 11] 15 (fun gg dv kv _ wq => ∃ j : Nat, 15 ≤ gg + j ∧ j ≤ 15 ∧ kv = .int .i64 ((j + 1 : Nat) : Int) ∧ dv = .int .u32 (fst ls (j + 1) : Nat) ∧ ROwn wq a (csAt ls (j + 1) 0) ls (.slice (some ⟨m', 0, none⟩) len len) la' lc' ∧ Kept (fun _ => False) W wq)
          case atStart => exact ⟨0, by omega, by omega, rfl, rfl, by rw [csAt_zero]; exact H9.out.1, H9.out.2.1⟩
          case round =>
            obtain ⟨j, hgg, hj, rfl, rfl, hT, hk⟩ := hrel
            have HTJ := Lib.hid (And.intro hT hk)
            obtain ⟨k, hkj⟩ : ∃ k, j + 1 = k := ⟨_, rfl⟩
            rw [hkj] at HTJ ⊢
            have HKJ := Lib.hid hkj
            by_cases hj15 : j < 15
            · have gkl : decide ((k : Int) ≤ 15) = true := decide_eq_true (by omega)
              have gkl' : decide (k ≤ 15) = true := decide_eq_true (by omega)
              have hk15 : 1 ≤ k ∧ k ≤ 15 := by omega
              obtain ⟨F, hF⟩ : ∃ F, fst ls k = F := ⟨_, rfl⟩
              rw [hF]
              have hFl := fst_le HRO.out k hk15.2
              rw [hF] at hFl
              have hF2 : F + cnt ls k ≤ 32768 := Nat.le_trans hFl (Nat.pow_le_pow_right (n := 2) (by omega) hk15.2)
              have HF := Lib.hid (And.intro hF hF2)
              obtain ⟨gkO, rfl⟩ : ∃ g, g = gk := ⟨_, rfl⟩
              clear hT hk hkj hF hFl hF2
              go_wp2
              go_loopg [9, 11] len (fun gg dv iv wq => ∃ i : Nat, len ≤ gg + i ∧ i ≤ len ∧ iv = .int .i64 (i : Int) ∧ dv = .int .u32 (F + rank ls i k : Nat) ∧ ROwn wq a (csAt ls k i) ls (.slice (some ⟨m', 0, none⟩) len len) la' lc' ∧ Kept (fun _ => False) W wq)
              case atStart => exact ⟨0, by omega, by omega, rfl, by simp [rank], HTJ.out.1, HTJ.out.2⟩
              case round =>
                obtain ⟨i, hgi, hin, rfl, rfl, hT, hk⟩ := hrel
                have HTI := Lib.hid (And.intro hT hk)
                have hrk : rank ls i k ≤ cnt ls k := by
                  unfold cnt; rw [if_neg (by omega)]
                  unfold rank
                  exact List.Sublist.count_le _ (List.take_sublist _ _)
                obtain ⟨r, hr⟩ : ∃ r, rank ls i k = r := ⟨_, rfl⟩
                rw [hr] at hrk ⊢
                have hF2 := HF.out.2
                have hFr : F + r ≤ 32768 := by omega
                obtain ⟨CD, hCD⟩ : ∃ C, F + r = C := ⟨_, rfl⟩
                rw [hCD] at hFr ⊢
                have HCD := Lib.hid (And.intro hCD (And.intro hr hrk))
                clear hF2 hrk hr hCD
                by_cases hi : i < len
                · have gi : decide (i < len) = true := decide_eq_true hi
                  obtain ⟨c, hcc⟩ : ∃ c, ls[i]? = some c := ⟨_, List.getElem?_eq_getElem (by rw [H.out.2.2.1]; exact hi)⟩
                  have hgd : ls.getD i 0 = c := by rw [List.getD_eq_getElem?_getD, hcc]; rfl
                  have hc256 := H.out.2.1 c (List.mem_of_getElem? hcc)
                  obtain ⟨b, off, rfl, hcell⟩ := H.out.1.2.resolve_left (by omega)
                  have hci := hk.cell (hcell i hi) id
                  rw [ints_at hcc] at hci
                  have wi : IntKind.i64.wrap ((i : Int) + 1) = (i : Int) + 1 := IntWalk.i64_in _ (by omega)
                  have wc : IntKind.i64.wrap (c : Int) = (c : Int) := IntWalk.i64_in _ (by omega)
                  have HCC := Lib.hid (And.intro hcc hgd)
                  clear hcell
                  by_cases hck : c = k
                  · subst hck
                    obtain ⟨⟨z1, -⟩, z2, -⟩ := blk2 hT.1
                    obtain ⟨y1, y2⟩ := own_cell hT.2.1 i hi
                    have hTU := hT.code (g := m') (cap := len) (by rw [csAt_len, H.out.2.2.1]) i CD (by rw [csAt_len, H.out.2.2.1]; exact hi)
                    obtain ⟨U, hU⟩ : ∃ U, wr.setCell ⟨m', i, none⟩ (.int .u32 (CD : Int)) = U := ⟨_, rfl⟩
                    rw [hU] at hTU
                    have wcd : IntKind.u32.wrap ((CD : Int) + 1) = (CD : Int) + 1 := IntWalk.u32_in _ (by omega)
                    have HU := Lib.hid (show ROwn U a (csAt ls c (i + 1)) ls (.slice (some ⟨m', 0, none⟩) len len) la' lc' ∧ Kept (fun _ => False) W U from by
                      refine ⟨?_, hk.trans (hTU.2.mono fun j _ hj => Or.inr (by cases hj; exact H9.out.2.2.2.1))⟩
                      have e2 : csAt ls c (i + 1) = (csAt ls c i).set i CD := by
                        rw [← csAt_set (by rw [H.out.2.2.1]; exact hi) HCC.out.2]
                        congr 1
                        unfold codeL
                        rw [HCC.out.2, if_neg (by omega), HF.out.1, HCD.out.2.1, HCD.out.1]
                      rw [e2]
                      exact hTU.1)
                    have hrs := rank_succ HCC.out.1 c
                    rw [if_pos rfl, HCD.out.2.1] at hrs
                    have HRS := Lib.hid hrs
                    clear hT hk hTU hrs hcc hgd
                    go_wp2
                    go_roundg (gk - 1)
                    case rel => exact ⟨i + 1, by omega, by omega, by simp, by rw [HRS.out, ← HCD.out.1]; simp; omega, HU.out⟩
                    case measure => omega
                  · have g1 : ((c : Int) == (k : Int)) = false := by simpa using (fun h : (c : Int) = (k : Int) => hck (by omega))
                    have g2 : (c == k) = false := by simpa using hck
                    have g3 : decide (c = k) = false := decide_eq_false hck
                    have g4 : decide ((c : Int) = (k : Int)) = false := decide_eq_false (fun h => hck (by omega))
                    have hrs := rank_succ HCC.out.1 k
                    rw [if_neg hck, HCD.out.2.1, Nat.add_zero] at hrs
                    have HU := Lib.hid (show ROwn wr a (csAt ls k (i + 1)) ls (.slice (some ⟨m', 0, none⟩) len len) la' lc' from by
                      rw [csAt_skip (by rw [HCC.out.2]; exact hck)]
                      exact HTI.out.1)
                    have HRS := Lib.hid hrs
                    clear hT hk hrs hck hcc hgd
                    go_wp2
                    go_roundg (gk - 1)
                    case rel => exact ⟨i + 1, by omega, by omega, by simp, by rw [HRS.out, ← HCD.out.1]; simp, HU.out, HTI.out.2⟩
                    case measure => omega
                · obtain rfl : i = len := by omega
                  have gi : decide (i < i) = false := decide_eq_false (by omega)
                  have wk : IntKind.i64.wrap ((k : Int) + 1) = (k : Int) + 1 := IntWalk.i64_in _ (by omega)
                  have hfs : fst ls (k + 1) = CD * 2 := by
                    rw [fst, HF.out.1, ← HCD.out.1, ← HCD.out.2.1, rank_all ls i k (by rw [H.out.2.2.1]; exact Nat.le_refl _)]
                    unfold cnt
                    rw [if_neg (by omega)]
                    omega
                  have HFS := Lib.hid (And.intro hfs (show ROwn wr a (csAt ls (k + 1) 0) ls (.slice (some ⟨m', 0, none⟩) i i) la' lc' from by
                    have h9 := HTI.out.1
                    have e : i = ls.length := H.out.2.2.1.symm
                    rw [show csAt ls k i = csAt ls (k + 1) 0 by rw [e]; exact csAt_next ls k hk15.1] at h9
                    exact h9))
                  have wsh : IntKind.u32.wrap ((CD : Int) * 2) = (CD : Int) * 2 := IntWalk.u32_in _ (by omega)
                  clear hT hk hfs
                  go_wp2
                  go_roundg (gkO - 1)
                  case rel => exact ⟨j + 1, by omega, by omega, by have := HKJ.out; simp; omega, by have := HKJ.out; rw [this, HFS.out.1]; simp, by have h9 := HFS.out.2; rw [← HKJ.out] at h9; exact h9, HTI.out.2⟩
                  case measure => omega
            · obtain rfl : j = 15 := by omega
              obtain rfl : k = 16 := by omega
              have gkl : decide ((16 : Int) ≤ 15) = false := by decide
              have gkl' : decide (16 ≤ 15) = false := by decide
              clear hT hk
              go_wp2
              refine bodyPost_ret (v := .tuple #[.pointer (some ⟨a, 0, none⟩), .int .i64 0]) (by simp [results, Try.results12, go_sem]) rfl ?_
              right
              refine ⟨by rw [HN.out.1, if_pos HOK.out], a, _, la', lc', rfl, HTJ.out.1, HTJ.out.2, H9.out.2.2.1, fun b hb => ?_, fun b off h0 h => H9.out.2.2.2.2 b off (by rw [← H.out.2.2.1]; exact h0) h⟩
              cases hb; exact H9.out.2.2.2.1
      · have k2 : decide (CV < 0) = false := decide_eq_false b2
        have HOK := Lib.hid (show okTab ls = true by rw [HN.out.2, k1, k2]; rfl)
        go_wp2_with fail
        refine HCM.out.mono ?_
        rintro e w11 ⟨rfl, hw11⟩
        obtain rfl : W = w11 := hw11.symm
        go_wp2
        refine wp_region_grow #[0, 0, 3, 0, 8, 24, 63, 127, 255] 9 [] (fun i => if i = 0 then some RA else if i = 2 then some RB else if i = 5 then some RM else if i = 7 then some RT else none) (by kernel_rfl) rfl (by kernel_rfl) (fun i hi => by cases hi) (fun _ _ _ _ _ h => h) ?_
        rintro _ rfl
        rw [← HWR.out]
        simp only [List.take_succ_cons, List.take_zero, List.drop_succ_cons, List.drop_zero, number, Nat.reduceAdd]
        refine wpGrow_step (fun K hK => ?_)
        go_simp
        refine ⟨fun w' hg => ⟨(Kept.refl _ _).alloc _, by rw [HRA.out]; exact ⟨_, rfl⟩⟩, fun v wv hv _ => ?_⟩
        rw [HRA.out] at hv
        obtain ⟨q, rfl⟩ := hv
        refine hK _ _ ?_; clear hK K
        refine wpGrow_step (fun K hK => ?_); go_simp; refine hK _ _ ?_; clear hK K
        refine wpGrow_step (fun K hK => ?_)
        refine growOp_told rfl rfl (fun w' hg => ?_) (fun v wv2 hv _ => ?_)
        · obtain ⟨la, lc, w3, hr, h1, h2, h3, -, h4⟩ := app_empty (P := Try.prog) (w := w') 22 22 5 i0 Try.underlying22 HI.out.1 HI.out.2.1 HI.out.2.2.1 HI.out.2.2.2 q a0 len cap (ints ls) (H.out.1.kept (HKR.out.then hg.old) (fun _ _ _ _ => id)) H.out.2.2.2 (by have := H.out.2.2.1; omega)
          refine upon_append (.tmp 59) (.tmp 60) 22 rfl rfl rfl hr h2 ?_
          rw [HRB.out]
          exact ⟨la, lc, rfl, h1, fun b off h0 h => ⟨by have := h3 b off h0 h; have := (HKR.out.then hg.old).size; omega, (h3 b off h0 h).2⟩, h4⟩
        rw [HRB.out] at hv
        obtain ⟨la, lc, rfl, hvb⟩ := hv
        have HVB := Lib.hid hvb
        clear hvb
        go_simp
        refine hK _ _ ?_; clear hK K
        refine wpGrow_step (fun K hK => ?_); go_simp; refine hK _ _ ?_; clear hK K
        refine wpGrow_step (fun K hK => ?_); go_simp; refine hK _ _ ?_; clear hK K
        refine wpGrow_step (fun K hK => ?_)
        refine growOp_told rfl rfl (fun w' hg => ?_) (fun v wv5 hv _ => ?_)
        · obtain ⟨w3, hr, h1, h2⟩ := run_make_full (P := Try.prog) w' 0 57 28 i1 (.int .u32 0) 1 Try.underlying57 HJ.out.1 HJ.out.2.1 HJ.out.2.2.1 .i64 .i64 len (by rw [HJ.out.2.2.2]; omega) (by simp [maxLen]; omega) (Nat.zero_le _)
          refine upon_make (.tmp 63) (.tmp 63) 57 rfl rfl rfl hr ((Kept.refl _ _).grown h2 (fun k h => by cases h)) ?_
          rw [HRM.out]
          have e1 : (madeCells (Value.int .u32 0).cells (len * 1)).toList = (List.replicate len (0 : Int)).map (Value.int .u32) := by
            rw [Nat.mul_one, List.map_replicate]; exact toList_madeCells_one _ _
          rw [e1] at h1
          exact ⟨_, rfl, by unfold Own; rw [List.length_replicate]; exact h1, (HKR.out.then hg.old).size⟩
        rw [HRM.out] at hv
        obtain ⟨m, rfl, hvm⟩ := hv
        have HVM := Lib.hid hvm
        clear hvm
        go_simp
        refine hK _ _ ?_; clear hK K
        refine wpGrow_step (fun K hK => ?_); go_simp; refine hK _ _ ?_; clear hK K
        refine wpGrow_step (fun K hK => ?_)
        go_simp
        refine ⟨fun w' hg => ⟨(Kept.refl _ _).alloc _, ?_⟩, fun v wv7 hv _ => ?_⟩
        · rw [HRT.out]
          have hk2 : Kept (fun _ => False) wv2 w' := hg.seen 2 (by kernel_rfl)
          have hk5 : Kept (fun _ => False) wv5 w' := hg.seen 5 (by kernel_rfl)
          have hkW := HKR.out.then hg.old
          have hka : Kept (fun _ => False) w' (w'.alloc (.cells #[.slice la len lc, .slice (some ⟨m, 0, none⟩) len len] 62)) := (Kept.refl _ _).alloc _
          obtain ⟨b1, b2, b3⟩ := HVB.out
          obtain ⟨m1, m2⟩ := HVM.out
          have hmw : m < w'.heap.size := Nat.lt_of_lt_of_le (m1.lt m rfl) hk5.size
          refine ⟨w'.heap.size, m, la, lc, rfl, ⟨?_, ?_, ?_, ?_, ?_⟩, hkW.size, m2, fun b off h0 h => (b2 b off h0 h).1⟩
          · rw [H.out.2.2.1]
            exact blk_new w' _
          · rw [H.out.2.2.1]
            have e : ints (List.replicate len 0) = List.replicate len 0 := by unfold ints; rw [List.map_replicate]; rfl
            rw [e]
            exact (m1.kept hk5 (fun _ _ => id)).kept hka (fun _ _ => id)
          · rw [H.out.2.2.1]
            exact (b1.kept hk2 (fun _ _ _ _ => id)).kept hka (fun _ _ _ _ => id)
          · intro h; have h9 : some m = some w'.heap.size := h; have := Option.some.inj h9; omega
          · intro b off h0 h
            rw [H.out.2.2.1] at h0
            obtain ⟨q1, cur, q2⟩ := b2 b off h0 h
            have q3 := hk2.blk q2 id
            have q4 := lt_of_blk q3
            refine ⟨by omega, ?_, by simp; omega⟩
            intro h9
            cases h9
            obtain ⟨-, h2⟩ := m1.kept hk5 (fun _ _ => id)
            rcases h2 with ⟨h3, -⟩ | ⟨g, cp, cur2, h3, -, hg2, -⟩
            · cases h3
            · injection h3 with e1 e2 e3
              injection e1 with e1
              injection e1 with e1
              rw [← e1, q3] at hg2
              cases hg2
        rw [HRT.out] at hv
        obtain ⟨a, m', la', lc', rfl, hT, hWa, hWm, hWl⟩ := hv
        refine hK _ _ ?_; clear hK K
        refine wpGrow_step (fun K hK => ?_); go_simp; refine hK _ _ ?_; clear hK K
        refine wpGrow_nil ?_
        intro w9 hk9 hω
        have hT9 := hT.grow (show Kept (fun _ => False) wv7 w9 from hω 7)
        have H9 := Lib.hid (And.intro hT9 (And.intro (HKR.out.then hk9) (And.intro hWa (And.intro hWm hWl))))
        clear hT hT9 hk9 hω hWa hWm hWl
        have HRO := Lib.hid (okTab_le HOK.out)
        go_wp2
        go_loopg [9, 10, 11] 15 (fun gg dv kv _ wq => ∃ j : Nat, 15 ≤ gg + j ∧ j ≤ 15 ∧ kv = .int .i64 ((j + 1 : Nat) : Int) ∧ dv = .int .u32 (fst ls (j + 1) : Nat) ∧ ROwn wq a (csAt ls (j + 1) 0) ls (.slice (some ⟨m', 0, none⟩) len len) la' lc' ∧ Kept (fun _ => False) W wq)
        case atStart => exact ⟨0, by omega, by omega, rfl, rfl, by rw [csAt_zero]; exact H9.out.1, H9.out.2.1⟩
        case round =>
          obtain ⟨j, hgg, hj, rfl, rfl, hT, hk⟩ := hrel
          have HTJ := Lib.hid (And.intro hT hk)
          obtain ⟨k, hkj⟩ : ∃ k, j + 1 = k := ⟨_, rfl⟩
          rw [hkj] at HTJ ⊢
          have HKJ := Lib.hid hkj
          by_cases hj15 : j < 15
          · have gkl : decide ((k : Int) ≤ 15) = true := decide_eq_true (by omega)
            have gkl' : decide (k ≤ 15) = true := decide_eq_true (by omega)
            have hk15 : 1 ≤ k ∧ k ≤ 15 := by omega
            obtain ⟨F, hF⟩ : ∃ F, fst ls k = F := ⟨_, rfl⟩
            rw [hF]
            have hFl := fst_le HRO.out k hk15.2
            rw [hF] at hFl
            have hF2 : F + cnt ls k ≤ 32768 := Nat.le_trans hFl (Nat.pow_le_pow_right (n := 2) (by omega) hk15.2)
            have HF := Lib.hid (And.intro hF hF2)
            obtain ⟨gkO, rfl⟩ : ∃ g, g = gk := ⟨_, rfl⟩
            clear hT hk hkj hF hFl hF2
            go_wp2
            go_loopg [9, 11] len (fun gg dv iv wq => ∃ i : Nat, len ≤ gg + i ∧ i ≤ len ∧ iv = .int .i64 (i : Int) ∧ dv = .int .u32 (F + rank ls i k : Nat) ∧ ROwn wq a (csAt ls k i) ls (.slice (some ⟨m', 0, none⟩) len len) la' lc' ∧ Kept (fun _ => False) W wq)
            case atStart => exact ⟨0, by omega, by omega, rfl, by simp [rank], HTJ.out.1, HTJ.out.2⟩
            case round =>
              obtain ⟨i, hgi, hin, rfl, rfl, hT, hk⟩ := hrel
              have HTI := Lib.hid (And.intro hT hk)
              have hrk : rank ls i k ≤ cnt ls k := by
                unfold cnt; rw [if_neg (by omega)]
                unfold rank
                exact List.Sublist.count_le _ (List.take_sublist _ _)
              obtain ⟨r, hr⟩ : ∃ r, rank ls i k = r := ⟨_, rfl⟩
              rw [hr] at hrk ⊢
              have hF2 := HF.out.2
              have hFr : F + r ≤ 32768 := by omega
              obtain ⟨CD, hCD⟩ : ∃ C, F + r = C := ⟨_, rfl⟩
              rw [hCD] at hFr ⊢
              have HCD := Lib.hid (And.intro hCD (And.intro hr hrk))
              clear hF2 hrk hr hCD
              by_cases hi : i < len
              · have gi : decide (i < len) = true := decide_eq_true hi
                obtain ⟨c, hcc⟩ : ∃ c, ls[i]? = some c := ⟨_, List.getElem?_eq_getElem (by rw [H.out.2.2.1]; exact hi)⟩
                have hgd : ls.getD i 0 = c := by rw [List.getD_eq_getElem?_getD, hcc]; rfl
                have hc256 := H.out.2.1 c (List.mem_of_getElem? hcc)
                obtain ⟨b, off, rfl, hcell⟩ := H.out.1.2.resolve_left (by omega)
                have hci := hk.cell (hcell i hi) id
                rw [ints_at hcc] at hci
                have wi : IntKind.i64.wrap ((i : Int) + 1) = (i : Int) + 1 := IntWalk.i64_in _ (by omega)
                have wc : IntKind.i64.wrap (c : Int) = (c : Int) := IntWalk.i64_in _ (by omega)
                have HCC := Lib.hid (And.intro hcc hgd)
                clear hcell
                by_cases hck : c = k
                · subst hck
                  obtain ⟨⟨z1, -⟩, z2, -⟩ := blk2 hT.1
                  obtain ⟨y1, y2⟩ := own_cell hT.2.1 i hi
                  have hTU := hT.code (g := m') (cap := len) (by rw [csAt_len, H.out.2.2.1]) i CD (by rw [csAt_len, H.out.2.2.1]; exact hi)
                  obtain ⟨U, hU⟩ : ∃ U, wr.setCell ⟨m', i, none⟩ (.int .u32 (CD : Int)) = U := ⟨_, rfl⟩
                  rw [hU] at hTU
                  have wcd : IntKind.u32.wrap ((CD : Int) + 1) = (CD : Int) + 1 := IntWalk.u32_in _ (by omega)
                  have HU := Lib.hid (show ROwn U a (csAt ls c (i + 1)) ls (.slice (some ⟨m', 0, none⟩) len len) la' lc' ∧ Kept (fun _ => False) W U from by
                    refine ⟨?_, hk.trans (hTU.2.mono fun j _ hj => Or.inr (by cases hj; exact H9.out.2.2.2.1))⟩
                    have e2 : csAt ls c (i + 1) = (csAt ls c i).set i CD := by
                      rw [← csAt_set (by rw [H.out.2.2.1]; exact hi) HCC.out.2]
                      congr 1
                      unfold codeL
                      rw [HCC.out.2, if_neg (by omega), HF.out.1, HCD.out.2.1, HCD.out.1]
                    rw [e2]
                    exact hTU.1)
                  have hrs := rank_succ HCC.out.1 c
                  rw [if_pos rfl, HCD.out.2.1] at hrs
                  have HRS := Lib.hid hrs
                  clear hT hk hTU hrs hcc hgd
                  go_wp2
                  go_roundg (gk - 1)
                  case rel => exact ⟨i + 1, by omega, by omega, by simp, by rw [HRS.out, ← HCD.out.1]; simp; omega, HU.out⟩
                  case measure => omega
                · have g1 : ((c : Int) == (k : Int)) = false := by simpa using (fun h : (c : Int) = (k : Int) => hck (by omega))
                  have g2 : (c == k) = false := by simpa using hck
                  have g3 : decide (c = k) = false := decide_eq_false hck
                  have g4 : decide ((c : Int) = (k : Int)) = false := decide_eq_false (fun h => hck (by omega))
                  have hrs := rank_succ HCC.out.1 k
                  rw [if_neg hck, HCD.out.2.1, Nat.add_zero] at hrs
                  have HU := Lib.hid (show ROwn wr a (csAt ls k (i + 1)) ls (.slice (some ⟨m', 0, none⟩) len len) la' lc' from by
                    rw [csAt_skip (by rw [HCC.out.2]; exact hck)]
                    exact HTI.out.1)
                  have HRS := Lib.hid hrs
                  clear hT hk hrs hck hcc hgd
                  go_wp2
                  go_roundg (gk - 1)
                  case rel => exact ⟨i + 1, by omega, by omega, by simp, by rw [HRS.out, ← HCD.out.1]; simp, HU.out, HTI.out.2⟩
                  case measure => omega
              · obtain rfl : i = len := by omega
                have gi : decide (i < i) = false := decide_eq_false (by omega)
                have wk : IntKind.i64.wrap ((k : Int) + 1) = (k : Int) + 1 := IntWalk.i64_in _ (by omega)
                have hfs : fst ls (k + 1) = CD * 2 := by
                  rw [fst, HF.out.1, ← HCD.out.1, ← HCD.out.2.1, rank_all ls i k (by rw [H.out.2.2.1]; exact Nat.le_refl _)]
                  unfold cnt
                  rw [if_neg (by omega)]
                  omega
                have HFS := Lib.hid (And.intro hfs (show ROwn wr a (csAt ls (k + 1) 0) ls (.slice (some ⟨m', 0, none⟩) i i) la' lc' from by
                  have h9 := HTI.out.1
                  have e : i = ls.length := H.out.2.2.1.symm
                  rw [show csAt ls k i = csAt ls (k + 1) 0 by rw [e]; exact csAt_next ls k hk15.1] at h9
                  exact h9))
                have wsh : IntKind.u32.wrap ((CD : Int) * 2) = (CD : Int) * 2 := IntWalk.u32_in _ (by omega)
                clear hT hk hfs
                go_wp2
                go_roundg (gkO - 1)
                case rel => exact ⟨j + 1, by omega, by omega, by have := HKJ.out; simp; omega, by have := HKJ.out; rw [this, HFS.out.1]; simp, by have h9 := HFS.out.2; rw [← HKJ.out] at h9; exact h9, HTI.out.2⟩
                case measure => omega
          · obtain rfl : j = 15 := by omega
            obtain rfl : k = 16 := by omega
            have gkl : decide ((16 : Int) ≤ 15) = false := by decide
            have gkl' : decide (16 ≤ 15) = false := by decide
            clear hT hk
            go_wp2
            refine bodyPost_ret (v := .tuple #[.pointer (some ⟨a, 0, none⟩), .int .i64 0]) (by simp [results, Try.results12, go_sem]) rfl ?_
            right
            refine ⟨by rw [HN.out.1, if_pos HOK.out], a, _, la', lc', rfl, HTJ.out.1, HTJ.out.2, H9.out.2.2.1, fun b hb => ?_, fun b off h0 h => H9.out.2.2.2.2 b off (by rw [← H.out.2.2.1]; exact h0) h⟩
            cases hb; exact H9.out.2.2.2.1
end Go.Proofs.Ytndneidjnlammaa
