/- What tables tell: Code, Symbols, on both sides. -/
import Derived.Test.YtndneidjnlammaaRNewT
namespace Go.Proofs.Ytndneidjnlammaa
open Go.RowKit Pl
set_option linter.unusedVariables false
set_option linter.unusedSimpArgs false
attribute [local go_sem] growOp growUpon sameUpon
/-- Has a symbol a code? -/
def hasCode (ls : List Nat) (s : Int) : Bool := decide (0 ≤ s ∧ s < (ls.length : Int) ∧ ls.getD s.toNat 0 ≠ 0)
def codeV (ls : List Nat) (s : Int) : Nat := if hasCode ls s = true then rev (codeL ls s.toNat) (ls.getD s.toNat 0) else 0
def lenV (ls : List Nat) (s : Int) : Nat := if hasCode ls s = true then ls.getD s.toNat 0 else 0
theorem codesR_at {ls : List Nat} {s : Nat} (hs : s < ls.length) (h1 : ls.getD s 0 ≠ 0) (h2 : ls.getD s 0 ≤ 15) : (codesR ls)[s]? = some (rev (codeL ls s) (ls.getD s 0)) := by
  unfold codesR
  rw [gsAt_get ls 16 0 s hs, if_pos (by omega)]
theorem codesC_at {ls : List Nat} {s : Nat} (hs : s < ls.length) (h2 : ls.getD s 0 ≤ 15) : (codesC ls)[s]? = some (codeL ls s) := by
  unfold codesC
  rw [csAt_get ls 16 0 s hs]
  by_cases h1 : ls.getD s 0 = 0
  · rw [if_neg (by omega)]; unfold codeL; rw [if_pos h1]
  · rw [if_pos (by omega)]
theorem rev_u32 (v n : Nat) (hn : n ≤ 15) : rev v n < 32768 := Nat.lt_of_lt_of_le (rev_lt v n) (Nat.pow_le_pow_right (n := 2) (by omega) hn)
theorem own_row {k : IntKind} {e : TypeId} {w : World} {v : Value} {xs : List Int} (h : Own k e w v xs) (h0 : 0 < xs.length) : ∃ g cap, v = .slice (some ⟨g, 0, none⟩) xs.length cap := by
  obtain ⟨h1, h2⟩ := h
  rcases h2 with ⟨-, h3⟩ | ⟨g, cap, cur, rfl, -⟩
  · omega
  · exact ⟨g, cap, rfl⟩
set_option maxRecDepth 100000 in
set_option maxHeartbeats 8000000 in
theorem code_any (W : World) (a : Nat) (cs : List Int) (ss ls : List Nat) (last : Int) (sv cv : Value) (la : Option Addr) (lc : Nat) (h : TOwn W a cs ss (codesR ls) ls last sv cv la lc) (hls : ∀ c ∈ ls, c ≤ 15) (hlen : ls.length ≤ 320) (s : Int) :
    Calls Try.prog 9 #[.pointer (some ⟨a, 0, none⟩), .int .i64 s] W fun e w' => e = .returned (.tuple #[.int .u32 (codeV ls s : Nat), .int .i64 (lenV ls s : Nat)]) ∧ Kept (fun _ => False) W w' := by
  have c18 := h.1.fl.1
  have hsl := h.2.2.2.1
  obtain ⟨n, hn⟩ : ∃ n, ls.length = n := ⟨_, rfl⟩
  rw [hn] at c18 hsl
  by_cases h0 : s < 0
  · have g1 : decide (s < 0) = true := decide_eq_true h0
    have e1 : hasCode ls s = false := decide_eq_false (by omega)
    have e2 : codeV ls s = 0 := by unfold codeV; rw [if_neg (by rw [e1]; decide)]
    have e3 : lenV ls s = 0 := by unfold lenV; rw [if_neg (by rw [e1]; decide)]
    rw [e2, e3]
    clear h hls
    go_enter Try.func9, Try.ntmps9
    go_wp2
    exact bodyPost_ret (v := .tuple #[.int .u32 0, .int .i64 0]) (by simp [results, Try.results9, go_sem]) rfl ⟨rfl, Kept.refl _ _⟩
  have g1 : decide (s < 0) = false := decide_eq_false h0
  obtain ⟨i, rfl⟩ := Int.eq_ofNat_of_zero_le (show 0 ≤ s by omega)
  by_cases h1 : n ≤ i
  · have g2 : decide (n ≤ i) = true := decide_eq_true h1
    have g2' : decide ((n : Int) ≤ (i : Int)) = true := decide_eq_true (by omega)
    have e1 : hasCode ls i = false := decide_eq_false (by omega)
    have e2 : codeV ls i = 0 := by unfold codeV; rw [if_neg (by rw [e1]; decide)]
    have e3 : lenV ls i = 0 := by unfold lenV; rw [if_neg (by rw [e1]; decide)]
    rw [e2, e3]
    clear h hls
    go_enter Try.func9, Try.ntmps9
    go_wp2
    exact bodyPost_ret (v := .tuple #[.int .u32 0, .int .i64 0]) (by simp [results, Try.results9, go_sem]) rfl ⟨rfl, Kept.refl _ _⟩
  have g2 : decide (n ≤ i) = false := decide_eq_false h1
  have g2' : decide ((n : Int) ≤ (i : Int)) = false := decide_eq_false (by omega)
  obtain ⟨c, hcc⟩ : ∃ c, ls[i]? = some c := ⟨_, List.getElem?_eq_getElem (by rw [hn]; omega)⟩
  have hgd : ls.getD i 0 = c := by rw [List.getD_eq_getElem?_getD, hcc]; rfl
  have hc15 := hls c (List.mem_of_getElem? hcc)
  obtain ⟨b, off, rfl, hcell⟩ := hsl.2.resolve_left (by omega)
  have hci := hcell i (by omega)
  rw [ints_at hcc] at hci
  by_cases hc0 : c = 0
  · subst hc0
    have e1 : hasCode ls i = false := decide_eq_false (by rw [Int.toNat_natCast, hgd]; omega)
    have e2 : codeV ls i = 0 := by unfold codeV; rw [if_neg (by rw [e1]; decide)]
    have e3 : lenV ls i = 0 := by unfold lenV; rw [if_neg (by rw [e1]; decide)]
    rw [e2, e3]
    clear h hls hcell hcc hgd
    go_enter Try.func9, Try.ntmps9
    go_wp2
    exact bodyPost_ret (v := .tuple #[.int .u32 0, .int .i64 0]) (by simp [results, Try.results9, go_sem]) rfl ⟨rfl, Kept.refl _ _⟩
  have g3 : ((c : Int) == 0) = false := by simp; omega
  have e1 : hasCode ls i = true := decide_eq_true (by rw [Int.toNat_natCast, hgd]; omega)
  have e2 : codeV ls i = rev (codeL ls i) c := by unfold codeV; rw [if_pos e1, Int.toNat_natCast, hgd]
  have e3 : lenV ls i = c := by unfold lenV; rw [if_pos e1, Int.toNat_natCast, hgd]
  rw [e2, e3]
  obtain ⟨RV, hRV⟩ : ∃ R, rev (codeL ls i) c = R := ⟨_, rfl⟩
  rw [hRV]
  have hx := codesR_at (s := i) (by rw [hn]; omega) (by rw [hgd]; exact hc0) (by rw [hgd]; exact hc15)
  rw [hgd, hRV] at hx
  have hoc := h.2.2.1
  have hgl : (ints (codesR ls)).length = n := by rw [ints_length]; unfold codesR; rw [gsAt_len, hn]
  obtain ⟨g, cp, hcv⟩ := own_row hoc (by rw [hgl]; omega)
  rw [hgl] at hcv
  subst hcv
  obtain ⟨y1, -⟩ := own_cell hoc i (by omega)
  rw [ints_at hx] at y1
  have c17 := h.1.fc.1
  obtain ⟨WR, hWR⟩ : ∃ WR, WR = W.drew := ⟨_, rfl⟩
  have hkR : Kept (fun _ => False) W WR := by rw [hWR]; exact (Kept.refl _ _).drew
  have X0 := cell_regrown (hkR.cell c17 id)
  have X1 := cell_regrown (hkR.cell c18 id)
  have X2 := cell_regrown (hkR.cell y1 id)
  have X3 := cell_regrown (hkR.cell hci id)
  have wc : IntKind.i64.wrap (c : Int) = (c : Int) := IntWalk.i64_in _ (by omega)
  have hil : i < n := by omega
  have hil' : (i : Int) < (n : Int) := by omega
  have HWR := Lib.hid (And.intro hWR hkR)
  clear h hls hcell hcc hgd hsl hoc hx hgl hWR hkR hRV
  go_enter Try.func9, Try.ntmps9
  go_wp2
  refine wp_region_grow #[0, 1, 3, 7, 0, 31, 63, 0, 128, 384, 896, 0, 3968, 8064, 16256, 127, 65535] 17 [] (fun i => none) (by kernel_rfl) rfl (by kernel_rfl) (fun i hi => by cases hi) (fun _ _ _ _ _ h => h) ?_
  rintro _ rfl
  rw [← HWR.out.1]
  simp only [List.take_succ_cons, List.take_zero, List.drop_succ_cons, List.drop_zero, number, Nat.reduceAdd]
  repeat (refine wpGrow_step (fun K hK => ?_); go_simp; refine hK _ _ ?_; clear hK K)
  refine wpGrow_nil ?_
  intro w9 hk9 hω
  clear hω X0 X1 X2 X3
  have HK := Lib.hid (HWR.out.2.then hk9)
  go_wp2
  exact bodyPost_ret (v := .tuple #[.int .u32 (RV : Int), .int .i64 (c : Int)]) (by simp [results, Try.results9, go_sem]) rfl ⟨rfl, HK.out⟩
set_option maxRecDepth 100000 in
set_option maxHeartbeats 8000000 in
theorem rcode_any (W : World) (a : Nat) (ls : List Nat) (cv : Value) (la : Option Addr) (lc : Nat) (h : ROwn W a (codesC ls) ls cv la lc) (hls : ∀ c ∈ ls, c ≤ 15) (hlen : ls.length ≤ 320) (hroom : room ls ≤ 32768) (s : Int) :
    Calls Try.prog 13 #[.pointer (some ⟨a, 0, none⟩), .int .i64 s] W fun e w' => e = .returned (.tuple #[.int .u32 (codeV ls s : Nat), .int .i64 (lenV ls s : Nat)]) ∧ Kept (fun _ => False) W w' := by
  obtain ⟨⟨c18, -⟩, c17, -⟩ := blk2 h.1
  have hsl := h.2.2.1
  obtain ⟨n, hn⟩ : ∃ n, ls.length = n := ⟨_, rfl⟩
  rw [hn] at c18 hsl
  by_cases h0 : s < 0
  · have g1 : decide (s < 0) = true := decide_eq_true h0
    have e1 : hasCode ls s = false := decide_eq_false (by omega)
    have e2 : codeV ls s = 0 := by unfold codeV; rw [if_neg (by rw [e1]; decide)]
    have e3 : lenV ls s = 0 := by unfold lenV; rw [if_neg (by rw [e1]; decide)]
    rw [e2, e3]
    clear h hls
    go_enter Try.func13, Try.ntmps13
    go_wp2
    exact bodyPost_ret (v := .tuple #[.int .u32 0, .int .i64 0]) (by simp [results, Try.results13, go_sem]) rfl ⟨rfl, Kept.refl _ _⟩
  have g1 : decide (s < 0) = false := decide_eq_false h0
  obtain ⟨i, rfl⟩ := Int.eq_ofNat_of_zero_le (show 0 ≤ s by omega)
  by_cases h1 : n ≤ i
  · have g2 : decide (n ≤ i) = true := decide_eq_true h1
    have g2' : decide ((n : Int) ≤ (i : Int)) = true := decide_eq_true (by omega)
    have e1 : hasCode ls i = false := decide_eq_false (by omega)
    have e2 : codeV ls i = 0 := by unfold codeV; rw [if_neg (by rw [e1]; decide)]
    have e3 : lenV ls i = 0 := by unfold lenV; rw [if_neg (by rw [e1]; decide)]
    rw [e2, e3]
    clear h hls
    go_enter Try.func13, Try.ntmps13
    go_wp2
    exact bodyPost_ret (v := .tuple #[.int .u32 0, .int .i64 0]) (by simp [results, Try.results13, go_sem]) rfl ⟨rfl, Kept.refl _ _⟩
  have g2 : decide (n ≤ i) = false := decide_eq_false h1
  have g2' : decide ((n : Int) ≤ (i : Int)) = false := decide_eq_false (by omega)
  obtain ⟨c, hcc⟩ : ∃ c, ls[i]? = some c := ⟨_, List.getElem?_eq_getElem (by rw [hn]; omega)⟩
  have hgd : ls.getD i 0 = c := by rw [List.getD_eq_getElem?_getD, hcc]; rfl
  have hc15 := hls c (List.mem_of_getElem? hcc)
  obtain ⟨b, off, rfl, hcell⟩ := hsl.2.resolve_left (by omega)
  have hci := hcell i (by omega)
  rw [ints_at hcc] at hci
  by_cases hc0 : c = 0
  · subst hc0
    have e1 : hasCode ls i = false := decide_eq_false (by rw [Int.toNat_natCast, hgd]; omega)
    have e2 : codeV ls i = 0 := by unfold codeV; rw [if_neg (by rw [e1]; decide)]
    have e3 : lenV ls i = 0 := by unfold lenV; rw [if_neg (by rw [e1]; decide)]
    rw [e2, e3]
    clear h hls hcell hcc hgd
    go_enter Try.func13, Try.ntmps13
    go_wp2
    exact bodyPost_ret (v := .tuple #[.int .u32 0, .int .i64 0]) (by simp [results, Try.results13, go_sem]) rfl ⟨rfl, Kept.refl _ _⟩
  have g3 : ((c : Int) == 0) = false := by simp; omega
  have e1 : hasCode ls i = true := decide_eq_true (by rw [Int.toNat_natCast, hgd]; omega)
  have e2 : codeV ls i = rev (codeL ls i) c := by unfold codeV; rw [if_pos e1, Int.toNat_natCast, hgd]
  have e3 : lenV ls i = c := by unfold lenV; rw [if_pos e1, Int.toNat_natCast, hgd]
  rw [e2, e3]
  obtain ⟨RV, hRV⟩ : ∃ R, rev (codeL ls i) c = R := ⟨_, rfl⟩
  rw [hRV]
  have hx := codesC_at (s := i) (by rw [hn]; omega) (by rw [hgd]; exact hc15)
  have hCb : codeL ls i < 32768 := by
    unfold codeL
    rw [hgd, if_neg hc0]
    have h8 := fst_le hroom c hc15
    have h9 := rank_lt hcc
    have h7 : cnt ls c = ls.count c := by unfold cnt; rw [if_neg hc0]
    have h6 : 2 ^ c ≤ 2 ^ 15 := Nat.pow_le_pow_right (n := 2) (by omega) hc15
    omega
  obtain ⟨CL, hCL⟩ : ∃ C, codeL ls i = C := ⟨_, rfl⟩
  rw [hCL] at hx hCb hRV
  have hcall : ∀ w, Calls Try.prog 28 #[.int .u32 (CL : Int), .int .i64 (c : Int)] w fun e w' => e = .returned (.int .u32 (RV : Int)) ∧ Kept (fun _ => False) w w' := fun w => by have h9 := refReverse_yes CL c w (by omega) (by omega); rw [hRV] at h9; exact h9.mono (fun e w2 hh => ⟨hh.1, by rcases hh.2 with h; first | (subst h; exact Kept.refl _ _) | (obtain ⟨m, rfl⟩ := h; exact (Kept.refl _ _).drewN m) | exact h⟩)
  have hoc := h.2.1
  have hgl : (ints (codesC ls)).length = n := by rw [ints_length]; unfold codesC; rw [csAt_len, hn]
  obtain ⟨g, cp, hcv⟩ := own_row hoc (by rw [hgl]; omega)
  rw [hgl] at hcv
  subst hcv
  obtain ⟨y1, -⟩ := own_cell hoc i (by omega)
  rw [ints_at hx] at y1
  obtain ⟨WR, hWR⟩ : ∃ WR, WR = W.drew := ⟨_, rfl⟩
  have hkR : Kept (fun _ => False) W WR := by rw [hWR]; exact (Kept.refl _ _).drew
  have X0 := cell_regrown (hkR.cell c17 id)
  have X1 := cell_regrown (hkR.cell c18 id)
  have X2 := cell_regrown (hkR.cell y1 id)
  have X3 := cell_regrown (hkR.cell hci id)
  have wc : IntKind.i64.wrap (c : Int) = (c : Int) := IntWalk.i64_in _ (by omega)
  have hil : i < n := by omega
  have hil' : (i : Int) < (n : Int) := by omega
  obtain ⟨RC, hRC⟩ : ∃ R : Value → World → Prop, R = fun v _ => v = .int .u32 (RV : Int) := ⟨_, rfl⟩
  have HRC := Lib.hid hRC
  have HCL := Lib.hid hcall
  have HWR := Lib.hid (And.intro hWR hkR)
  clear h hls hcell hcc hgd hsl hoc hx hgl hWR hkR hRV hcall hRC hCL
  go_enter Try.func13, Try.ntmps13
  go_wp2
  refine wp_region_grow #[0, 1, 3, 7, 0, 31, 63, 0, 128, 384, 896, 0, 3968, 8064, 16256, 32767, 0, 65536, 196608, 458752, 0, 2031616, 4128768, 8323072, 65535, 33554431] 26 [] (fun i => if i = 15 then some RC else none) (by kernel_rfl) rfl (by kernel_rfl) (fun i hi => by cases hi) (fun _ _ _ _ _ h => h) ?_
  rintro _ rfl
  rw [← HWR.out.1]
  simp only [List.take_succ_cons, List.take_zero, List.drop_succ_cons, List.drop_zero, number, Nat.reduceAdd]
  repeat (refine wpGrow_step (fun K hK => ?_); go_simp; refine hK _ _ ?_; clear hK K)
  refine wpGrow_step (fun K hK => ?_)
  go_simp
  refine ⟨fun w' hg => (HCL.out w').mono (fun e w'' ⟨he, hk⟩ => ⟨_, he, hk, by rw [HRC.out]⟩), fun v wv hv _ => ?_⟩
  rw [HRC.out] at hv
  subst hv
  refine hK _ _ ?_; clear hK K
  repeat (refine wpGrow_step (fun K hK => ?_); go_simp; refine hK _ _ ?_; clear hK K)
  refine wpGrow_nil ?_
  intro w9 hk9 hω
  clear hω X0 X1 X2 X3
  have HK := Lib.hid (HWR.out.2.then hk9)
  go_wp2
  exact bodyPost_ret (v := .tuple #[.int .u32 (RV : Int), .int .i64 (c : Int)]) (by simp [results, Try.results13, go_sem]) rfl ⟨rfl, HK.out⟩
/-- How many symbols have codes. -/
theorem srt_nz (ls : List Nat) (h : ∀ c ∈ ls, c ≤ 15) : (srt ls 15).length = nz ls := by
  rw [srt_len]
  have key : ∀ (l : List Nat), (∀ c ∈ l, c ≤ 15) → before l 16 = nz l := by
    refine snoc_ind (fun _ => by decide) ?_
    intro l c ih h
    have hc : c ≤ 15 := h c (by simp)
    have h1 := ih (fun x hx => h x (by simp [hx]))
    rw [nz_snoc, ← h1]
    have hb : ∀ m, m ≤ 16 → before (l ++ [c]) m = before l m + if 0 < c ∧ c < m then 1 else 0 := by
      intro m
      induction m with
      | zero => intro _; rw [before, before, if_neg (by omega)]
      | succ m ihm =>
        intro hm
        rw [before, before, ihm (by omega), cnt_snoc]
        by_cases h2 : 0 < c ∧ c < m
        · rw [if_pos h2, if_neg (by omega), if_pos (by omega)]; omega
        · rw [if_neg h2]
          by_cases h3 : 0 < m ∧ c = m
          · rw [if_pos h3, if_pos (by omega)]; omega
          · rw [if_neg h3, if_neg (by omega)]; omega
    rw [hb 16 (by omega)]
    by_cases h0 : 0 < c
    · rw [if_pos ⟨h0, by omega⟩, if_pos h0]
    · rw [if_neg (fun h => h0 h.1), if_neg h0]
  exact key ls h
set_option maxRecDepth 100000 in
theorem symbols_any (W : World) (a : Nat) (cs : List Int) (gs ls : List Nat) (last : Int) (sv cv : Value) (la : Option Addr) (lc : Nat) (h : TOwn W a cs (srt ls 15) gs ls last sv cv la lc) (hls : ∀ c ∈ ls, c ≤ 15) :
    Calls Try.prog 18 #[.pointer (some ⟨a, 0, none⟩)] W fun e w' => e = .returned (.int .i64 (nz ls : Nat)) ∧ w' = W := by
  have c16 := h.1.fs.1
  obtain ⟨sa, sc, rfl, -⟩ := h.2.1.shape
  rw [ints_length, srt_nz ls hls] at c16
  clear h hls
  go_enter Try.func18, Try.ntmps18
  go_wp2
  exact bodyPost_ret (v := .int .i64 (nz ls : Nat)) (by simp [results, Try.results18, go_sem]) rfl ⟨rfl, rfl⟩
set_option maxRecDepth 100000 in
set_option maxHeartbeats 4000000 in
theorem rsymbols_any (W : World) (a : Nat) (gs ls : List Nat) (cv : Value) (la : Option Addr) (lc : Nat) (h : ROwn W a gs ls cv la lc) (hls : ∀ c ∈ ls, c ≤ 15) (hlen : ls.length ≤ 320) :
    Calls Try.prog 19 #[.pointer (some ⟨a, 0, none⟩)] W fun e w' => e = .returned (.int .i64 (nz ls : Nat)) ∧ w' = W := by
  obtain ⟨⟨c0, -⟩, -⟩ := blk2 h.1
  obtain ⟨n, hn⟩ : ∃ n, ls.length = n := ⟨_, rfl⟩
  rw [hn] at c0
  have H := Lib.hid (And.intro h.2.2.1 (And.intro hls (And.intro hn hlen)))
  clear h hls hlen
  go_enter Try.func19, Try.ntmps19
  go_wp2
  go_loopg [3, 4] n (fun gg nv iv wr => ∃ i : Nat, n ≤ gg + i ∧ i ≤ n ∧ iv = .int .i64 (i : Int) ∧ nv = .int .i64 (nz (ls.take i) : Nat) ∧ wr = W)
  case atStart => exact ⟨0, by omega, by omega, rfl, rfl, rfl⟩
  case round =>
    obtain ⟨i, hgg, hin, rfl, rfl, hwr⟩ := hrel
    obtain rfl : W = wr := hwr.symm
    by_cases hi : i < n
    · have gi : decide (i < n) = true := decide_eq_true hi
      obtain ⟨c, hcc⟩ : ∃ c, ls[i]? = some c := ⟨_, List.getElem?_eq_getElem (by rw [hn]; exact hi)⟩
      have hsl := H.out.1
      rw [hn] at hsl
      obtain ⟨b, off, rfl, hcell⟩ := hsl.2.resolve_left (by omega)
      have hci := hcell i hi
      rw [ints_at hcc] at hci
      have wi : IntKind.i64.wrap ((i : Int) + 1) = (i : Int) + 1 := IntWalk.i64_in _ (by have := H.out.2.2.2; omega)
      have hnz := nz_snoc (ls.take i) c
      have hnb := nz_le (ls.take i)
      rw [List.length_take] at hnb
      rw [← take_snoc' hcc] at hnz
      obtain ⟨NZ, hNZ⟩ : ∃ m, nz (ls.take i) = m := ⟨_, rfl⟩
      rw [hNZ] at hnz hnb ⊢
      have wn : IntKind.i64.wrap ((NZ : Int) + 1) = (NZ : Int) + 1 := IntWalk.i64_in _ (by have := H.out.2.2.2; omega)
      have HNZ := Lib.hid hnz
      clear hsl hcell hcc hnz hNZ hn
      by_cases h0 : 0 < c
      · have g2 : decide (0 < c) = true := decide_eq_true h0
        have g2' : decide ((0 : Int) < (c : Int)) = true := decide_eq_true (by omega)
        go_wp2
        go_roundg (gk - 1)
        case rel => exact ⟨i + 1, by omega, by omega, by simp, by rw [HNZ.out, if_pos h0]; simp, rfl⟩
        case measure => omega
      · obtain rfl : c = 0 := by omega
        go_wp2
        go_roundg (gk - 1)
        case rel => exact ⟨i + 1, by omega, by omega, by simp, by rw [HNZ.out]; simp, rfl⟩
        case measure => omega
    · obtain rfl : i = n := by omega
      have gi : decide (i < i) = false := decide_eq_false (by omega)
      have e : ls.take i = ls := List.take_of_length_le (by rw [hn]; exact Nat.le_refl _)
      rw [e]
      clear e hn
      go_wp2
      exact bodyPost_ret (v := .int .i64 (nz ls : Nat)) (by simp [results, Try.results19, go_sem]) rfl ⟨rfl, rfl⟩
set_option maxRecDepth 100000 in
theorem at_any (p : Nat) (o : Option Nat) (bs : List Int) (at_ : Nat) (w : World) (h : RdAt w p o bs at_) :
    Calls Try.prog 17 #[.pointer (some ⟨p, 0, none⟩)] w fun e w' => e = .returned (.int .i64 (at_ : Int)) ∧ w' = w := by
  obtain ⟨v, h1, -⟩ := h
  obtain ⟨⟨-, -⟩, c1, -⟩ := blk2 h1
  clear h1
  go_enter Try.func17, Try.ntmps17
  go_wp2
  exact bodyPost_ret (v := .int .i64 (at_ : Int)) (by simp [results, Try.results17, go_sem]) rfl ⟨rfl, rfl⟩
end Go.Proofs.Ytndneidjnlammaa
