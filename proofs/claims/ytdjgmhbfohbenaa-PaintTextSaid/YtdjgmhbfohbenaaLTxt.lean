/- The law PaintText. -/
import Derived.Test.YtdjgmhbfohbenaaLinM
namespace Go.Proofs.Ytdjgmhbfohbenaa
open Go.RowKit Go.Sort Pl
set_option linter.unusedVariables false
set_option linter.unusedSimpArgs false
attribute [local go_sem] A2.growOp A2.growUpon A2.sameUpon
theorem ownV_blk {e : TypeId} {w : World} {v : Value} {xs : List Value} (h : OwnV e w v xs) {b : Nat} (hb : v.ownBlock = some b) : ∃ c, w.heap[b]? = some (.cells c e (0, 0)) := by
  obtain ⟨h1, h2⟩ := h
  rcases h2 with ⟨rfl, -⟩ | ⟨g, cap, cur, rfl, -, hg, -⟩
  · cases hb
  · cases hb; exact ⟨cur, hg⟩
theorem ownC_blk {w : World} {v : Value} {L : List Cl} (h : OwnC w v L) {b : Nat} (hb : v.ownBlock = some b) : ∃ c, w.heap[b]? = some (.cells c 100 (0, 0)) := by
  obtain ⟨h1, h2⟩ := h
  rcases h2 with ⟨rfl, -⟩ | ⟨g, cap, cur, rfl, -, hg, -⟩
  · cases hb
  · cases hb; exact ⟨cur, hg⟩
theorem blk_ty {w : World} {b b' : Nat} {c c' : Array Value} {t t' : TypeId} (h : w.heap[b]? = some (.cells c t (0, 0))) (h' : w.heap[b']? = some (.cells c' t' (0, 0))) (ht : t ≠ t') : b ≠ b' := by
  rintro rfl
  rw [h] at h'
  simp only [Option.some.injEq, Obj.cells.injEq] at h'
  exact ht h'.2.1
/-- The lines laid so far: in a row of their own, which the scene in block sb holds. -/
def TI (W : World) (sb : Nat) (S0 : Value → Array Value) (ls : Nat → List Cl) (i : Nat) (gv : Value) (wr : World) : Prop :=
  ∃ vs, OwnV 73 wr gv vs ∧ vs.length = i ∧ (∀ j, j < i → ∃ v, vs[j]? = some v ∧ OwnC wr v (ls j)) ∧ wr.heap[sb]? = some (.cells (S0 gv) 26 (0, 0)) ∧ Kept (fun _ => False) W wr ∧ (∀ b, gv.ownBlock = some b → sb < b)
theorem TI.kept {W : World} {sb : Nat} {S0 : Value → Array Value} {ls : Nat → List Cl} {i : Nat} {gv : Value} {wr w2 : World} (h : TI W sb S0 ls i gv wr) (hk : Kept (fun _ => False) wr w2) : TI W sb S0 ls i gv w2 := by
  obtain ⟨vs, h1, h2, h3, h4, h5, h6⟩ := h
  refine ⟨vs, h1.kept hk (fun _ _ => id), h2, fun j hj => ?_, hk.blk h4 id, h5.then hk, h6⟩
  obtain ⟨v, hv, ho⟩ := h3 j hj
  exact ⟨v, hv, ho.kept hk (fun _ _ => id)⟩
/-- One line more. -/
theorem TI.next {W : World} {sb : Nat} {S0 : Value → Array Value} {ls : Nat → List Cl} {i : Nat} {gv : Value} {wr wa w5 : World} {v5 xv : Value} {vs : List Value} (h1 : OwnV 73 wr gv vs) (h2 : vs.length = i) (h3 : ∀ j, j < i → ∃ v, vs[j]? = some v ∧ OwnC wr v (ls j)) (h4 : wr.heap[sb]? = some (.cells (S0 gv) 26 (0, 0))) (hk : Kept (fun _ => False) W wr) (h6 : ∀ b, gv.ownBlock = some b → sb < b)
    (hS : ∀ u, (S0 gv).setIfInBounds 4 u = S0 u) (hsb : W.heap.size ≤ sb)
    (hka : Kept (fun _ => False) wr wa) (ho5 : OwnV 73 w5 v5 (vs ++ [xv])) (hk5 : Kept (fun k => gv.ownBlock = some k) wa w5) (hpr5 : v5.ownBlock = gv.ownBlock ∨ v5.ownBlock = some wa.heap.size) (hx : OwnC wr xv (ls i)) :
    TI W sb S0 ls (i + 1) v5 (w5.setCell ⟨sb, 4, none⟩ v5) := by
  have hgo : gv.ownBlock ≠ some sb := fun he => Nat.lt_irrefl _ (h6 sb he)
  obtain ⟨f1, f2, f3, f4, f5⟩ := appV_field (i := 4) h4 rfl hgo hka ho5 hk5 hpr5
  have rowk : ∀ (v : Value) (L : List Cl), OwnC wr v L → OwnC (w5.setCell ⟨sb, 4, none⟩ v5) v L := fun v L ho => ho.kept f4 (fun b hb hS => by
    obtain ⟨c, hc⟩ := ownC_blk ho hb
    rcases hS with rfl | hS
    · exact blk_ty hc h4 (by decide) rfl
    · obtain ⟨c', hc'⟩ := ownV_blk h1 hS
      exact blk_ty hc hc' (by decide) rfl)
  refine ⟨vs ++ [xv], f2, by simp [h2], fun j hj => ?_, by rw [f1, hS], hk.trans (f4.mono fun b _ hb => Or.inr ?_), fun b hb => ?_⟩
  · by_cases hji : j = i
    · subst hji
      exact ⟨xv, by simp [← h2], rowk _ _ hx⟩
    · obtain ⟨v, hv, ho⟩ := h3 j (by omega)
      exact ⟨v, by rw [List.getElem?_append_left (by omega)]; exact hv, rowk _ _ ho⟩
  · rcases hb with rfl | hb
    · exact hsb
    · have := h6 b hb; omega
  · rcases f5 with h | ⟨c, hc, hcz⟩
    · exact h6 b (by rw [← h]; exact hb)
    · rw [hb] at hc; cases hc
      have := lt_of_blk h4; omega
theorem TI.lines {W : World} {sb : Nat} {S0 : Value → Array Value} {ls : Nat → List Cl} {i : Nat} {a : Option Addr} {n c : Nat} {wr : World} (h : TI W sb S0 ls i (.slice a n c) wr) : n = i ∧ LinesAt wr.heap.size wr a i ((List.range i).map ls) := by
  obtain ⟨vs, h1, h2, h3, h4, hk, h6⟩ := h
  obtain ⟨a', c', hv, -, -, -, hg, -⟩ := h1.shape
  cases hv
  refine ⟨h2, by simp, ?_⟩
  by_cases h0 : i = 0
  · exact .inl h0
  · obtain ⟨g, rfl⟩ := hg (by omega)
    have hat := h1.at
    refine .inr ⟨g, 0, rfl, hat.2.2.1, fun j l hj => ?_⟩
    have hji : j < i := by have := (List.getElem?_eq_some_iff.1 hj).1; simpa using this
    have hl : l = ls j := by simp [hji] at hj; exact hj.symm
    subst hl
    obtain ⟨v, hv, ho⟩ := h3 j hji
    obtain ⟨a9, c9, rfl, hs9, -, -, -, hb9⟩ := ho.shape
    refine ⟨a9, (ls j).length, c9, by rw [Nat.zero_add]; exact (hat.2.2.2.1 j (by omega)).trans hv, rfl, hs9.2.imp (fun h => h) fun ⟨b, off, he, hc⟩ => ⟨b, off, he, ?_, fun k c hk f hf => hc k c hk f hf⟩⟩
    exact ho.lt b (hb9 b off he)
theorem glyc_bytes (W H : Nat) (r : Int) (a : Look) : IsBytes (glyP W H r a) := by
  unfold glyP
  refine boxS_ind (fun x y bw bh c P hc hP => layL_bytes hc hP) _ _ _ _ (layL_bytes (colors_isB a).2 ?_)
  intro v hv
  rw [List.eq_of_mem_replicate hv]
  exact ⟨by decide, by decide⟩
theorem glyc_len (W H : Nat) (r : Int) (a : Look) : (glyP W H r a).length = 4 * (W * H) := by unfold glyP; exact boxS_len (fun x y bw bh c P => layL_len ..) _ _ _ _ (layL_len ..)
theorem info73 : (Try.prog.info? 73).map (fun i => (i.zero, i.size, i.bytes)) = some (some (.slice none 0 0), 1, 24) := by kernel_rfl
set_option maxRecDepth 100000 in
set_option maxHeartbeats 8000000 in
theorem text_early (rows cols cw ch : Int) (a0 : Option Addr) (ln lc : Nat) (xs : List Int) (aa : Option Addr) (an ac : Nat) (R : Nat → Look) (W : World) (h : rows < 1 ∨ cols < 1 ∨ 5 < rows ∨ 8 < cols ∨ cw < 1 ∨ ch < 1 ∨ 6 < cw ∨ 6 < ch ∨ 40 < ln ∨ an = 0) :
    Calls Try.prog 8 #[.int .i64 rows, .int .i64 cols, .int .i64 cw, .int .i64 ch, .slice a0 ln lc, .slice aa an ac] W fun e w' => e = .returned (.bool true) ∧ Below W.heap.size W w' := by
  by_cases c0 : rows < 1
  · have g0 : decide (rows < 1) = true := decide_eq_true c0
    clear h c0
    go_enter Try.func8, Try.ntmps8
    go_wp2_with fail
    refine (known_any _).mono ?_
    rintro e w1 ⟨rfl, hk1⟩
    go_wp2
    exact bodyPost_ret (v := .bool true) (by simp [results, Try.results8, go_sem]) rfl ⟨rfl, hk1.below⟩
  have g0 : decide (rows < 1) = false := decide_eq_false c0
  by_cases c1 : cols < 1
  · have g1 : decide (cols < 1) = true := decide_eq_true c1
    clear h c0 c1
    go_enter Try.func8, Try.ntmps8
    go_wp2_with fail
    refine (known_any _).mono ?_
    rintro e w1 ⟨rfl, hk1⟩
    go_wp2
    exact bodyPost_ret (v := .bool true) (by simp [results, Try.results8, go_sem]) rfl ⟨rfl, hk1.below⟩
  have g1 : decide (cols < 1) = false := decide_eq_false c1
  by_cases c2 : 5 < rows
  · have g2 : decide (5 < rows) = true := decide_eq_true c2
    clear h c0 c1 c2
    go_enter Try.func8, Try.ntmps8
    go_wp2_with fail
    refine (known_any _).mono ?_
    rintro e w1 ⟨rfl, hk1⟩
    go_wp2
    exact bodyPost_ret (v := .bool true) (by simp [results, Try.results8, go_sem]) rfl ⟨rfl, hk1.below⟩
  have g2 : decide (5 < rows) = false := decide_eq_false c2
  by_cases c3 : 8 < cols
  · have g3 : decide (8 < cols) = true := decide_eq_true c3
    clear h c0 c1 c2 c3
    go_enter Try.func8, Try.ntmps8
    go_wp2_with fail
    refine (known_any _).mono ?_
    rintro e w1 ⟨rfl, hk1⟩
    go_wp2
    exact bodyPost_ret (v := .bool true) (by simp [results, Try.results8, go_sem]) rfl ⟨rfl, hk1.below⟩
  have g3 : decide (8 < cols) = false := decide_eq_false c3
  by_cases c4 : cw < 1
  · have g4 : decide (cw < 1) = true := decide_eq_true c4
    clear h c0 c1 c2 c3 c4
    go_enter Try.func8, Try.ntmps8
    go_wp2_with fail
    refine (known_any _).mono ?_
    rintro e w1 ⟨rfl, hk1⟩
    go_wp2
    exact bodyPost_ret (v := .bool true) (by simp [results, Try.results8, go_sem]) rfl ⟨rfl, hk1.below⟩
  have g4 : decide (cw < 1) = false := decide_eq_false c4
  by_cases c5 : ch < 1
  · have g5 : decide (ch < 1) = true := decide_eq_true c5
    clear h c0 c1 c2 c3 c4 c5
    go_enter Try.func8, Try.ntmps8
    go_wp2_with fail
    refine (known_any _).mono ?_
    rintro e w1 ⟨rfl, hk1⟩
    go_wp2
    exact bodyPost_ret (v := .bool true) (by simp [results, Try.results8, go_sem]) rfl ⟨rfl, hk1.below⟩
  have g5 : decide (ch < 1) = false := decide_eq_false c5
  by_cases c6 : 6 < cw
  · have g6 : decide (6 < cw) = true := decide_eq_true c6
    clear h c0 c1 c2 c3 c4 c5 c6
    go_enter Try.func8, Try.ntmps8
    go_wp2_with fail
    refine (known_any _).mono ?_
    rintro e w1 ⟨rfl, hk1⟩
    go_wp2
    exact bodyPost_ret (v := .bool true) (by simp [results, Try.results8, go_sem]) rfl ⟨rfl, hk1.below⟩
  have g6 : decide (6 < cw) = false := decide_eq_false c6
  by_cases c7 : 6 < ch
  · have g7 : decide (6 < ch) = true := decide_eq_true c7
    clear h c0 c1 c2 c3 c4 c5 c6 c7
    go_enter Try.func8, Try.ntmps8
    go_wp2_with fail
    refine (known_any _).mono ?_
    rintro e w1 ⟨rfl, hk1⟩
    go_wp2
    exact bodyPost_ret (v := .bool true) (by simp [results, Try.results8, go_sem]) rfl ⟨rfl, hk1.below⟩
  have g7 : decide (6 < ch) = false := decide_eq_false c7
  by_cases c8 : 40 < ln
  · have g8 : decide (40 < ln) = true := decide_eq_true c8
    have g8' : decide (40 < (ln : Int)) = true := decide_eq_true (by omega)
    clear h c0 c1 c2 c3 c4 c5 c6 c7 c8
    go_enter Try.func8, Try.ntmps8
    go_wp2_with fail
    refine (known_any _).mono ?_
    rintro e w1 ⟨rfl, hk1⟩
    go_wp2
    exact bodyPost_ret (v := .bool true) (by simp [results, Try.results8, go_sem]) rfl ⟨rfl, hk1.below⟩
  have g8 : decide (40 < ln) = false := decide_eq_false c8
  have g8' : decide (40 < (ln : Int)) = false := decide_eq_false (by omega)
  have c9 : an = 0 := by omega
  subst c9
  clear h
  go_enter Try.func8, Try.ntmps8
  go_wp2_with fail
  refine (known_any _).mono ?_
  rintro e w1 ⟨rfl, hk1⟩
  go_wp2
  exact bodyPost_ret (v := .bool true) (by simp [results, Try.results8, go_sem]) rfl ⟨rfl, hk1.below⟩
set_option maxRecDepth 100000 in
set_option maxHeartbeats 8000000 in
theorem text_go (rows cols cw ch : Nat) (a0 : Option Addr) (ln lc : Nat) (xs : List Int) (aa : Option Addr) (an ac : Nat) (R : Nat → Look) (W : World) (hrows : 1 ≤ rows ∧ rows ≤ 5) (hcols : 1 ≤ cols ∧ cols ≤ 8) (hcw : 1 ≤ cw ∧ cw ≤ 6) (hch : 1 ≤ ch ∧ ch ≤ 6) (hln : ln ≤ 40) (han : 0 < an ∧ an ≤ 9223372036854775807)
    (hs : SlAt .i32 W a0 ln xs) (hxs : ∀ x ∈ xs, -2147483648 ≤ x ∧ x ≤ 2147483647) (hR : IsLooks W aa an R) :
    Calls Try.prog 8 #[.int .i64 rows, .int .i64 cols, .int .i64 cw, .int .i64 ch, .slice a0 ln lc, .slice aa an ac] W fun e w' => e = .returned (.bool true) ∧ Below W.heap.size W w' := by
  have g0 : decide ((rows : Int) < 1) = false := decide_eq_false (by omega)
  have g1 : decide ((cols : Int) < 1) = false := decide_eq_false (by omega)
  have g2 : decide (5 < (rows : Int)) = false := decide_eq_false (by omega)
  have g3 : decide (8 < (cols : Int)) = false := decide_eq_false (by omega)
  have g4 : decide ((cw : Int) < 1) = false := decide_eq_false (by omega)
  have g5 : decide ((ch : Int) < 1) = false := decide_eq_false (by omega)
  have g6 : decide (6 < (cw : Int)) = false := decide_eq_false (by omega)
  have g7 : decide (6 < (ch : Int)) = false := decide_eq_false (by omega)
  have g0' : decide (rows < 1) = false := decide_eq_false (by omega)
  have g1' : decide (cols < 1) = false := decide_eq_false (by omega)
  have g2' : decide (5 < rows) = false := decide_eq_false (by omega)
  have g3' : decide (8 < cols) = false := decide_eq_false (by omega)
  have g4' : decide (cw < 1) = false := decide_eq_false (by omega)
  have g5' : decide (ch < 1) = false := decide_eq_false (by omega)
  have g6' : decide (6 < cw) = false := decide_eq_false (by omega)
  have g7' : decide (6 < ch) = false := decide_eq_false (by omega)
  have g8 : decide (40 < ln) = false := decide_eq_false (by omega)
  have g8' : decide (40 < (ln : Int)) = false := decide_eq_false (by omega)
  have g9 : ((an : Int) == 0) = false := by simp; omega
  have g9' : (an == 0) = false := by simp; omega
  have hxl := hs.1
  have HB := Lib.hid (And.intro hrows (And.intro hcols (And.intro hcw (And.intro hch (And.intro hln han)))))
  have HX := Lib.hid (And.intro hs (And.intro hxs (And.intro hR hxl)))
  obtain ⟨C, hC⟩ : ∃ C : Nat → Cl, C = txtC xs R an := ⟨_, rfl⟩
  obtain ⟨K, hK⟩ : ∃ K : Nat → Nat → List Cl, K = txtK xs R an cols := ⟨_, rfl⟩
  have HK0 := Lib.hid (show ∀ i, List.replicate cols (⟨0, 0, ⟨0, 0, 0⟩⟩ : Cl) = K i 0 by intro i; rw [hK]; exact txtK_0 ..)
  have HKL := Lib.hid (show ∀ i k, (K i k).length = cols ∧ Nar (K i k) by intro i k; rw [hK]; exact ⟨txtK_len _ _ _ _ _ _, txtK_nar _ _ _ _ _ _⟩)
  have HKS := Lib.hid (show ∀ i k, k < cols → (K i k).set k (C (i * cols + k)) = K i (k + 1) by intro i k hk; rw [hK, hC]; exact txtK_set hk)
  have HKN := Lib.hid (show ∀ i k, k < cols → C (i * cols + k) = ⟨0, 0, ⟨0, 0, 0⟩⟩ → K i k = K i (k + 1) by intro i k hk h; rw [hC] at h; rw [hK]; exact txtK_skip hk h)
  have HCY := Lib.hid (show ∀ n, n < ln → 0 < xs.getD n 0 → C n = ⟨xs.getD n 0, 0, R (n % an)⟩ by intro n h1 h2; rw [hC]; unfold txtC; rw [if_pos ⟨by omega, h2⟩])
  have HCN := Lib.hid (show ∀ n, ¬ (n < ln ∧ 0 < xs.getD n 0) → C n = ⟨0, 0, ⟨0, 0, 0⟩⟩ by intro n h1; rw [hC]; unfold txtC; rw [if_neg (by rw [hxl]; exact h1)])
  have HLL := Lib.hid (show txtL xs R an cols rows = (List.range rows).map (fun i => K i cols) by unfold txtL; rw [hK])
  have HCC := Lib.hid hC
  clear hs hxs hR hrows hcols hcw hch hln han hK hC hxl
  go_enter Try.func8, Try.ntmps8
  go_wp2_with fail
  refine (known_any _).mono ?_
  rintro e w1 ⟨rfl, hk1⟩
  obtain ⟨S0, hS0⟩ : ∃ S : Value → Array Value, S = fun gv => #[.int .i64 rows, .int .i64 cols, .int .i64 cw, .int .i64 ch, gv, .slice none 0 0, .map none, .int .i64 0, .bool false, .int .i64 0, .int .i64 0] := ⟨_, rfl⟩
  obtain ⟨V, hV⟩ : ∃ V, w1.alloc (.cells #[.int .i64 rows, .int .i64 cols, .int .i64 cw, .int .i64 ch, .slice none 0 0, .slice none 0 0, .map none, .int .i64 0, .bool false, .int .i64 0, .int .i64 0] 26) = V := ⟨_, rfl⟩
  have kV : Kept (fun _ => False) w1 V := by rw [← hV]; exact (Kept.refl _ _).alloc _
  have b0 : V.heap[w1.heap.size]? = some (.cells (S0 (.slice none 0 0)) 26 (0, 0)) := by rw [← hV, hS0]; exact blk_new _ _
  rw [hS0] at b0
  obtain ⟨V4, hV4⟩ : ∃ X, V.setCell ⟨w1.heap.size, 4, none⟩ (.slice none 0 0) = X := ⟨_, rfl⟩
  have b4 : V4.heap[w1.heap.size]? = some (.cells #[.int .i64 rows, .int .i64 cols, .int .i64 cw, .int .i64 ch, .slice none 0 0, .slice none 0 0, .map none, .int .i64 0, .bool false, .int .i64 0, .int .i64 0] 26 (0, 0)) := by rw [← hV4]; exact blk_set b0 4 _
  have cz4 := blk_cell b0 4
  have fz4 := blk_free b0 4
  obtain ⟨V5, hV5⟩ : ∃ X, V4.setCell ⟨w1.heap.size, 5, none⟩ (.slice none 0 0) = X := ⟨_, rfl⟩
  have b5 : V5.heap[w1.heap.size]? = some (.cells #[.int .i64 rows, .int .i64 cols, .int .i64 cw, .int .i64 ch, .slice none 0 0, .slice none 0 0, .map none, .int .i64 0, .bool false, .int .i64 0, .int .i64 0] 26 (0, 0)) := by rw [← hV5]; exact blk_set b4 5 _
  have cz5 := blk_cell b4 5
  have fz5 := blk_free b4 5
  obtain ⟨V6, hV6⟩ : ∃ X, V5.setCell ⟨w1.heap.size, 6, none⟩ (.map none) = X := ⟨_, rfl⟩
  have b6 : V6.heap[w1.heap.size]? = some (.cells #[.int .i64 rows, .int .i64 cols, .int .i64 cw, .int .i64 ch, .slice none 0 0, .slice none 0 0, .map none, .int .i64 0, .bool false, .int .i64 0, .int .i64 0] 26 (0, 0)) := by rw [← hV6]; exact blk_set b5 6 _
  have cz6 := blk_cell b5 6
  have fz6 := blk_free b5 6
  obtain ⟨V7, hV7⟩ : ∃ X, V6.setCell ⟨w1.heap.size, 7, none⟩ (.int .i64 0) = X := ⟨_, rfl⟩
  have b7 : V7.heap[w1.heap.size]? = some (.cells #[.int .i64 rows, .int .i64 cols, .int .i64 cw, .int .i64 ch, .slice none 0 0, .slice none 0 0, .map none, .int .i64 0, .bool false, .int .i64 0, .int .i64 0] 26 (0, 0)) := by rw [← hV7]; exact blk_set b6 7 _
  have cz7 := blk_cell b6 7
  have fz7 := blk_free b6 7
  obtain ⟨V8, hV8⟩ : ∃ X, V7.setCell ⟨w1.heap.size, 8, none⟩ (.bool false) = X := ⟨_, rfl⟩
  have b8 : V8.heap[w1.heap.size]? = some (.cells #[.int .i64 rows, .int .i64 cols, .int .i64 cw, .int .i64 ch, .slice none 0 0, .slice none 0 0, .map none, .int .i64 0, .bool false, .int .i64 0, .int .i64 0] 26 (0, 0)) := by rw [← hV8]; exact blk_set b7 8 _
  have cz8 := blk_cell b7 8
  have fz8 := blk_free b7 8
  obtain ⟨V9, hV9⟩ : ∃ X, V8.setCell ⟨w1.heap.size, 9, none⟩ (.int .i64 0) = X := ⟨_, rfl⟩
  have b9 : V9.heap[w1.heap.size]? = some (.cells #[.int .i64 rows, .int .i64 cols, .int .i64 cw, .int .i64 ch, .slice none 0 0, .slice none 0 0, .map none, .int .i64 0, .bool false, .int .i64 0, .int .i64 0] 26 (0, 0)) := by rw [← hV9]; exact blk_set b8 9 _
  have cz9 := blk_cell b8 9
  have fz9 := blk_free b8 9
  obtain ⟨V10, hV10⟩ : ∃ X, V9.setCell ⟨w1.heap.size, 10, none⟩ (.int .i64 0) = X := ⟨_, rfl⟩
  have b10 : V10.heap[w1.heap.size]? = some (.cells #[.int .i64 rows, .int .i64 cols, .int .i64 cw, .int .i64 ch, .slice none 0 0, .slice none 0 0, .map none, .int .i64 0, .bool false, .int .i64 0, .int .i64 0] 26 (0, 0)) := by rw [← hV10]; exact blk_set b9 10 _
  have cz10 := blk_cell b9 10
  have fz10 := blk_free b9 10
  have kZ : Kept (fun i => i = w1.heap.size) V V10 := by
    rw [← hV10, ← hV9, ← hV8, ← hV7, ← hV6, ← hV5, ← hV4]
    exact (((((((Kept.refl (fun i => i = w1.heap.size) V).setCell (p := ⟨w1.heap.size, 4, none⟩) (.inl rfl) _).setCell (p := ⟨w1.heap.size, 5, none⟩) (.inl rfl) _).setCell (p := ⟨w1.heap.size, 6, none⟩) (.inl rfl) _).setCell (p := ⟨w1.heap.size, 7, none⟩) (.inl rfl) _).setCell (p := ⟨w1.heap.size, 8, none⟩) (.inl rfl) _).setCell (p := ⟨w1.heap.size, 9, none⟩) (.inl rfl) _).setCell (p := ⟨w1.heap.size, 10, none⟩) (.inl rfl) _
  have hkZ : Kept (fun _ => False) W V10 := (hk1.then kV).trans (kZ.mono fun i _ hi => Or.inr (by have h9 : i = w1.heap.size := hi; have := hk1.size; omega))
  simp only [List.getElem?_toArray, List.getElem?_cons_succ, List.getElem?_cons_zero] at cz4 cz5 cz6 cz7 cz8 cz9 cz10
  have HT0 := Lib.hid (show TI W w1.heap.size S0 (fun i => K i cols) 0 (.slice none 0 0) V10 from ⟨[], OwnV.nil _ _, rfl, (fun j hj => absurd hj (Nat.not_lt_zero j)), by rw [hS0]; exact b10, hkZ, fun b h => by cases h⟩)
  have HS0 := Lib.hid hS0
  have HW1 := Lib.hid hk1.size
  have h63 : (9223372036854775807 : Nat) = maxLen := rfl
  clear kV b0 b4 b5 b6 b7 b8 b9 b10 kZ hkZ hS0 hk1
  go_wp2
  go_loopg [14, 15, 16, 17] rows (fun gg iv _ _ _ wr => ∃ (i : Nat) (gv : Value), rows ≤ gg + i ∧ i ≤ rows ∧ iv = .int .i64 (i : Int) ∧ TI W w1.heap.size S0 (fun i => K i cols) i gv wr)
  case atStart => exact ⟨0, _, by omega, by omega, rfl, HT0.out⟩
  case round =>
    obtain ⟨i, gv, hgg, hir, rfl, hti⟩ := hrel
    by_cases hi1 : i < rows
    · have q1 : decide (i < rows) = true := decide_eq_true hi1
      have q1' : decide ((i : Int) < (rows : Int)) = true := decide_eq_true (by omega)
      have wi : IntKind.i64.wrap ((i : Int) + 1) = (i : Int) + 1 := IntWalk.i64_in _ (by have := HB.out; omega)
      have hq : i * cols ≤ 5 * 8 := Nat.mul_le_mul (by have := HB.out; omega) (by have := HB.out; omega)
      obtain ⟨q, hqq⟩ : ∃ q, i * cols = q := ⟨_, rfl⟩
      rw [hqq] at hq
      have v1 : (i : Int) * (cols : Int) = (q : Int) := by rw [← hqq]; simp
      have v2 : IntKind.i64.wrap (q : Int) = (q : Int) := IntWalk.i64_in _ (by omega)
      have HQ := Lib.hid hqq
      have HTI := Lib.hid hti
      obtain ⟨gko, hgo⟩ : ∃ x, x = gk := ⟨_, rfl⟩
      subst hgo
      have HNL := Lib.hid (fun (w : World) => show Calls Try.prog 25 #[.int .i64 cols, .agg #[.int .i64 0, .int .i64 0, .int .i64 0]] w fun e w' => ∃ v, e = .returned v ∧ MadeC w (K i 0) v w' from by rw [← HK0.out i]; exact newl_any cols ⟨0, 0, 0⟩ w (by have := HB.out; omega))
      clear hti hqq
      go_wp2_with fail
      refine (HNL.out _).mono ?_
      rintro e w2 ⟨xv, rfl, ho2, hk2, hb2⟩
      have HT2 := Lib.hid (And.intro (HTI.out.kept hk2) ho2)
      clear ho2 hk2 hb2
      go_wp2
      go_loopg [15, 16, 17] cols (fun gg x0 kv _ wr => ∃ (k : Nat) (xv : Value), xv = x0 ∧ cols ≤ gg + k ∧ k ≤ cols ∧ kv = .int .i64 (k : Int) ∧ TI W w1.heap.size S0 (fun i => K i cols) i gv wr ∧ OwnC wr xv (K i k))
      case atStart => exact ⟨0, _, rfl, by omega, by omega, rfl, HT2.out⟩
      case round =>
        obtain ⟨k, xv, rfl, hgk, hkc, rfl, hti, hox⟩ := hrel
        by_cases hk1 : k < cols
        · have r1 : decide (k < cols) = true := decide_eq_true hk1
          have r1' : decide ((k : Int) < (cols : Int)) = true := decide_eq_true (by omega)
          have wk : IntKind.i64.wrap ((k : Int) + 1) = (k : Int) + 1 := IntWalk.i64_in _ (by have := HB.out; omega)
          obtain ⟨n, hn⟩ : ∃ n, q + k = n := ⟨_, rfl⟩
          have v3 : (q : Int) + (k : Int) = (n : Int) := by omega
          have v4 : IntKind.i64.wrap (n : Int) = (n : Int) := IntWalk.i64_in _ (by have := HB.out; omega)
          have HN := Lib.hid (show i * cols + k = n by rw [HQ.out]; exact hn)
          have hnb : n ≤ 48 := by have := HB.out; omega
          have HT3 := Lib.hid (And.intro hti hox)
          have hkw : Kept (fun _ => False) W wr := hti.choose_spec.2.2.2.2.1
          have HKW := Lib.hid hkw
          clear hti hox hn
          by_cases hn1 : n < ln
          · have r2 : decide (n < ln) = true := decide_eq_true hn1
            have r2' : decide ((n : Int) < (ln : Int)) = true := decide_eq_true (by omega)
            have n0 : (0 : Int) ≤ (n : Int) := by omega
            have n1 : (n : Int) < (ln : Int) := by omega
            obtain ⟨b, off, rfl, hcell⟩ := HX.out.1.2.resolve_left (by omega)
            obtain ⟨xn, hxn⟩ : ∃ x, xs.getD n 0 = x := ⟨_, rfl⟩
            have y0 := hcell n hn1
            rw [hxn] at y0
            have y1 := hkw.cell y0 id
            by_cases hpos : 0 < xn
            · have r3 : decide (0 < xn) = true := decide_eq_true hpos
              obtain ⟨m, hm⟩ : ∃ m, n % an = m := ⟨_, rfl⟩
              have hman : m < an := by rw [← hm]; exact Nat.mod_lt _ HB.out.2.2.2.2.2.1
              have hCn := HCY.out n hn1 (by rw [hxn]; exact hpos)
              rw [hxn, hm] at hCn
              have hKS := HKS.out i k hk1
              rw [HN.out, hCn] at hKS
              obtain ⟨ab, ao, rfl, -, hal⟩ := HX.out.2.2.1.resolve_left (by omega)
              obtain ⟨l0, l1, l2⟩ := hal m hman
              rw [← Nat.add_assoc] at l1 l2
              obtain ⟨RM, hRM⟩ : ∃ r, R m = r := ⟨_, rfl⟩
              rw [hRM] at l0 l1 l2 hKS
              obtain ⟨fg, bg, fl⟩ := RM
              obtain ⟨g, cv, cur, hge, -⟩ := HT3.out.2.blk (by rw [(HKL.out i k).1]; omega)
              rw [(HKL.out i k).1] at hge
              subst hge
              obtain ⟨WR, hWR⟩ : ∃ WR, WR = wr.drew := ⟨_, rfl⟩
              have kR : Kept (fun _ => False) wr WR := by rw [hWR]; exact (Kept.refl _ _).drew
              have Y1 := cell_regrown (kR.cell y1 id)
              have L0 := cell_regrown ((hkw.then kR).cell l0 id)
              have L1 := cell_regrown ((hkw.then kR).cell l1 id)
              have L2 := cell_regrown ((hkw.then kR).cell l2 id)
              have tm : (n : Int).tmod (an : Int) = (m : Int) := by
                rw [Int.tmod_eq_emod_of_nonneg (by omega), ← hm]
                exact (Int.natCast_emod n an).symm
              have wm : IntKind.i64.wrap (m : Int) = (m : Int) := IntWalk.i64_in _ (by have := HB.out; omega)
              have m0 : (0 : Int) ≤ (m : Int) := by omega
              have m1 : (m : Int) < (an : Int) := by omega
              have an0 : ¬ (an : Int) = 0 := by omega
              have an0' : ¬ an = 0 := by omega
              have HPU := Lib.hid (fun (w' : World) (hk : Kept (fun _ => False) WR w') => show Calls Try.prog 28 #[.slice (some ⟨g, 0, none⟩) cols cv, .int .i64 k, .int .i32 xn, .int .i64 1, .agg #[.int .i64 fg, .int .i64 bg, .int .i64 fl]] w' fun e w'' => ∃ v, e = .returned (.tuple #[v, .bool true]) ∧ OwnC w'' v (K i (k + 1)) ∧ Kept (fun _ => False) w' w'' from by
                have ho := HT3.out.2.kept (kR.then hk) (fun _ _ => id)
                obtain ⟨a9, c9, hv9, hs9, -⟩ := ho.shape
                rw [(HKL.out i k).1] at hv9 hs9
                cases hv9
                refine (putl_any g 0 cols cv k xn ⟨fg, bg, fl⟩ (K i k) w' hs9 (by have := HB.out; omega) hk1 (ho.lt g rfl) (HKL.out i k).2).mono ?_
                rintro e w'' ⟨v, he, ho2, hk2, -⟩
                rw [hKS] at ho2
                exact ⟨v, he, ho2, hk2⟩)
              obtain ⟨RP, hRP⟩ : ∃ R : Value → World → Prop, R = fun v w' => ∃ v', v = .tuple #[v', .bool true] ∧ OwnC w' v' (K i (k + 1)) := ⟨_, rfl⟩
              have HRP := Lib.hid hRP
              have HWR := Lib.hid hWR
              have HKR := Lib.hid kR
              clear hWR kR hRP hKS hRM hal l0 l1 l2 hcell y0 hkw hm hxn hCn
              go_wp2
              refine A2.wp_region_grow (fun _ => false) #[0, 0, 0, 0, 12, 28, 0, 0, 0, 256, 896, 1984, 4032, 8191, 16383, 32767, 32767, 65535] 18 [] (fun j => if j = 13 then some RP else none) (by kernel_rfl) rfl (by kernel_rfl) (fun i hi => by cases hi) (fun _ _ _ _ _ h => h) ?_
              rintro _ rfl
              rw [← HWR.out]
              simp only [List.take_succ_cons, List.take_zero, List.drop_succ_cons, List.drop_zero, A2.number, Nat.reduceAdd]
              repeat (refine A2.wpGrow_step (fun K hK => ?_); go_simp; refine hK _ _ ?_; clear hK K)
              refine A2.wpGrow_step (fun K hK => ?_)
              go_simp
              refine ⟨fun w' hg => ?_, fun v2 w5 hv2 hg2 _ => ?_⟩
              · with_reducible refine (HPU.out w' hg.old).mono ?_
                exact (fun e9 w'' ⟨v, he, ho, hk⟩ => ⟨_, he, hk, by rw [HRP.out]; exact ⟨v, rfl, ho⟩⟩)
              rw [HRP.out] at hv2
              obtain ⟨v', rfl, ho2⟩ := hv2
              have HO2 := Lib.hid ho2
              clear ho2
              refine hK _ _ ?_; clear hK K
              repeat (refine A2.wpGrow_step (fun K hK => ?_); go_simp; refine hK _ _ ?_; clear hK K)
              refine A2.wpGrow_nil ?_
              intro w6 hk6 hω
              have HE := Lib.hid (And.intro (HT3.out.1.kept (HKR.out.then hk6)) (HO2.out.kept (show Kept (fun _ => False) w5 w6 from hω 13) (fun _ _ => id)))
              clear hω hk6 hg2 Y1 L0 L1 L2 y1
              go_wp2
              go_roundg (gk - 1)
              case rel => exact ⟨k + 1, v', rfl, by omega, by omega, by go_num, HE.out⟩
              case measure => omega
            · have r3 : decide (0 < xn) = false := decide_eq_false hpos
              have hKN := HKN.out i k hk1 (by rw [HN.out]; exact HCN.out n (fun h => hpos (by rw [← hxn]; exact h.2)))
              have HE := Lib.hid (And.intro HT3.out.1 (show OwnC wr xv (K i (k + 1)) by rw [← hKN]; exact HT3.out.2))
              clear hKN hcell y0 hxn hkw
              go_wp2
              go_roundg (gk - 1)
              case rel => exact ⟨k + 1, xv, rfl, by omega, by omega, by go_num, HE.out⟩
              case measure => omega
          · have r2 : decide (n < ln) = false := decide_eq_false hn1
            have r2' : decide ((n : Int) < (ln : Int)) = false := decide_eq_false (by omega)
            have hKN := HKN.out i k hk1 (by rw [HN.out]; exact HCN.out n (fun h => hn1 h.1))
            have HE := Lib.hid (And.intro HT3.out.1 (show OwnC wr xv (K i (k + 1)) by rw [← hKN]; exact HT3.out.2))
            clear hKN hkw
            go_wp2
            go_roundg (gk - 1)
            case rel => exact ⟨k + 1, xv, rfl, by omega, by omega, by go_num, HE.out⟩
            case measure => omega
        · obtain rfl : k = cols := by omega
          have r1 : decide (k < k) = false := decide_eq_false (by omega)
          obtain ⟨vs, t1, t2, t3, t4, t5, t6⟩ := hti
          obtain ⟨ga, gc, hge, -⟩ := t1.shape
          rw [t2] at hge
          subst hge
          obtain ⟨xg, xcv, xcur, hxe, -⟩ := hox.blk (by rw [(HKL.out i k).1]; have := HB.out; omega)
          rw [(HKL.out i k).1] at hxe
          subst hxe
          obtain ⟨i0, hi0, hz0, hs0, hb0⟩ := info_parts info73
          have HI0 := Lib.hid (And.intro hi0 (And.intro hz0 (And.intro hs0 hb0)))
          obtain ⟨A1, hA1⟩ : ∃ A1, wr.alloc (.cells #[.slice (some ⟨xg, 0, none⟩) k xcv] 73) = A1 := ⟨_, rfl⟩
          have kA1 : Kept (fun _ => False) wr A1 := by rw [← hA1]; exact (Kept.refl _ _).alloc _
          have bA1 : A1.heap[wr.heap.size]? = some (.cells #[.slice (some ⟨xg, 0, none⟩) k xcv] 73 (0, 0)) := by rw [← hA1]; exact blk_new _ _
          have y4 : wr.cell? ⟨w1.heap.size, 4, none⟩ = some (.slice ga i gc) := by
            rw [HS0.out] at t4
            exact blk_cell t4 4
          have hsb : ∀ w', Kept (fun k => (Value.slice ga i gc).ownBlock = some k) A1 w' → w'.cell? ⟨w1.heap.size, 4, none⟩ = some (.slice ga i gc) ∧ w'.frozen? ⟨w1.heap.size, 4, none⟩ = false := fun w' hk => by
            have hb := hk.blk (kA1.blk t4 id) (fun h => Nat.lt_irrefl _ (t6 _ h))
            rw [HS0.out] at hb
            exact ⟨blk_cell hb 4, blk_free hb 4⟩
          have HSB := Lib.hid hsb
          have HV := Lib.hid (And.intro (t1.kept kA1 (fun _ _ => id)) (And.intro (one_lit bA1) (And.intro kA1 t2)))
          have HTT := Lib.hid (And.intro t1 (And.intro t2 (And.intro t3 (And.intro t4 (And.intro t5 t6)))))
          have HTI2 := Lib.hid (And.intro (show TI W w1.heap.size S0 (fun i => K i k) i (.slice ga i gc) wr from ⟨vs, t1, t2, t3, t4, t5, t6⟩) hox)
          clear t1 t2 t3 t4 t5 t6 hox hi0 hz0 hs0 hb0 kA1 bA1 hsb
          go_wp2_with (at_builtin; refine wpList_appV rfl (.tmp 119) (.tmp 121) 22 rfl 73 i0 _ 24 Try.underlying22 HI0.out.1 HI0.out.2.1 HI0.out.2.2.1 HI0.out.2.2.2 rfl (.slice ga i gc) vs rfl HV.out.1 (some ⟨wr.heap.size, 0, none⟩) 1 1 [.slice (some ⟨xg, 0, none⟩) k xcv] rfl (fun h => by cases h) rfl (by intro u hu; cases hu with | head => rfl | tail _ h => cases h) HV.out.2.1 (by rw [HV.out.2.2.2]; have := HB.out; omega) (by rw [HV.out.2.2.2]; have := HB.out; omega) ?_; intro v8 w8 ho8 hk8 hpr8; obtain ⟨va, vc, hve, -⟩ := ho8.shape; obtain ⟨vl, hvl⟩ : ∃ n, (vs ++ [Value.slice (some ⟨xg, 0, none⟩) k xcv]).length = n := ⟨_, rfl⟩; rw [hvl] at hve; subst hve; obtain ⟨z4, z4'⟩ := HSB.out w8 hk8; have H8 := Lib.hid (And.intro ho8 (And.intro hk8 hpr8)); clear ho8 hk8 hpr8 hvl)
          obtain ⟨U, hU⟩ : ∃ U, w8.setCell ⟨w1.heap.size, 4, none⟩ (.slice va vl vc) = U := ⟨_, rfl⟩
          have HTN := Lib.hid (show TI W w1.heap.size S0 (fun i => K i k) (i + 1) (.slice va vl vc) U from by
            rw [← hU]
            exact TI.next HTT.out.1 HTT.out.2.1 HTT.out.2.2.1 HTT.out.2.2.2.1 HTT.out.2.2.2.2.1 HTT.out.2.2.2.2.2 (fun u => by rw [HS0.out]; rfl) HW1.out HV.out.2.2.1 H8.out.1 H8.out.2.1 H8.out.2.2 HTI2.out.2)
          go_roundg (gko - 1)
          case rel => exact ⟨i + 1, .slice va vl vc, by omega, by omega, by go_num, by rw [hU]; exact HTN.out⟩
          case measure => omega
    · obtain rfl : i = rows := by omega
      have q1 : decide (i < i) = false := decide_eq_false (by omega)
      have hti0 := hti
      obtain ⟨vs, t1, t2, t3, t4, t5, t6⟩ := hti0
      obtain ⟨ga, gc, hge, -⟩ := t1.shape
      rw [t2] at hge
      subst hge
      obtain ⟨-, hlines⟩ := hti.lines
      rw [← HLL.out] at hlines
      obtain ⟨SC, hSC⟩ : ∃ s : Sc, s = ⟨i, cols, cw, ch, ga, i, gc, none, 0, 0, none, 0, false, 0, 0⟩ := ⟨_, rfl⟩
      obtain ⟨PW, hPW⟩ : ∃ x, cols * cw = x := ⟨_, rfl⟩
      obtain ⟨PH, hPH⟩ : ∃ x, i * ch = x := ⟨_, rfl⟩
      have hb := HB.out
      have hPWb : PW ≤ 8 * 6 := by rw [← hPW]; exact Nat.mul_le_mul (by omega) (by omega)
      have hPHb : PH ≤ 5 * 6 := by rw [← hPH]; exact Nat.mul_le_mul (by omega) (by omega)
      have hWHb : PW * PH ≤ 48 * 30 := Nat.mul_le_mul hPWb hPHb
      have hPW1 : 1 ≤ PW := by rw [← hPW]; exact Nat.mul_pos (by omega) (by omega)
      have hPH1 : 1 ≤ PH := by rw [← hPH]; exact Nat.mul_pos (by omega) (by omega)
      have hdim : Dim SC PW PH (4 * (PW * PH)) := by
        rw [hSC]
        exact ⟨by show i ≤ 1000; omega, by show cols ≤ 1000; omega, by show 1 ≤ cw ∧ cw ≤ 64; omega, by show 1 ≤ ch ∧ ch ≤ 64; omega, by omega, by omega, rfl, by omega⟩
      have hdraw := draw_yes SC (txtL xs R an cols i) (fun _ P => P) wr PW PH (4 * (PW * PH)) hdim (by rw [hSC]; show 1 ≤ i; omega) (by rw [hSC]; show 1 ≤ cols; omega) (by rw [hSC]; exact hPW.symm) (by rw [hSC]; exact hPH.symm) (fun r c => txtL_r HX.out.2.1 R an cols i r c) (by rw [hSC]; show i ≤ _; omega) (imgs0 SC _ _ _ _ _ (by rw [hSC])) (fun _ P h => h) (by rw [hSC]; exact hlines)
      have hdp : drawP SC (txtL xs R an cols i) (fun _ P => P) PW PH (4 * (PW * PH)) (List.replicate (4 * (PW * PH)) 0) = eachF (glsF SC (txtL xs R an cols i) PW PH) SC.cols SC.rows (eachF (groF SC (txtL xs R an cols i) PW PH) SC.cols SC.rows (List.replicate (4 * (PW * PH)) 0)) := by
        unfold drawP curP
        rw [if_neg (fun h => by rw [hSC] at h; cases h.1)]
      rw [hdp] at hdraw
      obtain ⟨PIC, hPIC⟩ : ∃ x, eachF (glsF SC (txtL xs R an cols i) PW PH) SC.cols SC.rows (eachF (groF SC (txtL xs R an cols i) PW PH) SC.cols SC.rows (List.replicate (4 * (PW * PH)) 0)) = x := ⟨_, rfl⟩
      rw [hPIC] at hdraw
      have hzb : IsBytes (List.replicate (4 * (PW * PH)) 0) := by intro v hv; rw [List.eq_of_mem_replicate hv]; exact ⟨by decide, by decide⟩
      have hPICb : IsBytes PIC := by rw [← hPIC]; exact gls_bytes SC _ PW PH (gro_bytes SC _ PW PH hzb)
      have hPICl : PIC.length = 4 * (PW * PH) := by
        rw [← hPIC]
        exact eachF_ind (C := fun P => P.length = 4 * (PW * PH)) (fun r c P hP => by
          unfold glsF
          split
          · exact hP
          · exact boxS_len (fun x y bw bh c P => by unfold glsL; exact layL_len ..) _ _ _ _ hP) _ _ (eachF_ind (C := fun P => P.length = 4 * (PW * PH)) (fun r c P hP => by unfold groF; exact layL_len ..) _ _ (by simp))
      have HCUT := Lib.hid (fun (Rr Cc : Nat) (hRr : Rr < i) (hCc : Cc < cols) => show cutM PW PH ((Cc * cw : Nat) : Int) ((Rr * ch : Nat) : Int) cw ch PIC = (cw, ch, glyP cw ch (txtC xs R an (Rr * cols + Cc)).r (txtC xs R an (Rr * cols + Cc)).a) from by
        have h := text_cut (s := SC) (ls := txtL xs R an cols i) (W := PW) (H := PH) (R := Rr) (C := Cc) (by rw [hSC]; show 0 < cw; omega) (by rw [hSC]; show 0 < ch; omega) (by rw [hSC]; exact hPW.symm) (by rw [hSC]; exact hPH.symm) (fun r c => txtL_k0 ..) (by rw [hSC]; exact hRr) (by rw [hSC]; exact hCc) (by rw [txtL_cell hRr hCc]; exact txtC_z) (by omega) (by omega) (List.replicate (4 * (PW * PH)) 0)
        rw [hPIC, txtL_cell hRr hCc] at h
        rw [hSC] at h
        exact h)
      rw [hSC] at hdraw
      unfold Sc.val mat at hdraw
      have HDR := Lib.hid hdraw
      rw [HS0.out] at t4
      obtain ⟨y0, y1, y2, y3, y4, y5, y6, y7, y8, y9, y10⟩ := blk11 t4
      have HPI := Lib.hid (And.intro hPICb (And.intro hPICl (And.intro hPWb (And.intro hPHb (And.intro hPW1 (And.intro hPH1 hWHb))))))
      have HKW := Lib.hid t5
      have HTOT := Lib.hid (And.intro hPW hPH)
      obtain ⟨tot, htot⟩ : ∃ t, i * cols = t := ⟨_, rfl⟩
      have htotb : tot ≤ 5 * 8 := by rw [← htot]; exact Nat.mul_le_mul (by omega) (by omega)
      have vt : (i : Int) * (cols : Int) = (tot : Int) := by rw [← htot]; simp
      have wt : IntKind.i64.wrap (tot : Int) = (tot : Int) := IntWalk.i64_in _ (by omega)
      have HTT2 := Lib.hid htot
      clear hti t1 t2 t3 t4 t5 t6 hlines hSC hPW hPH hb hPWb hPHb hWHb hPW1 hPH1 hdim hdraw hdp hPIC hzb hPICb hPICl htot
      go_wp2_with fail
      refine HDR.out.mono ?_
      rintro e w2 ⟨g, rfl, hg, ho, hk2⟩
      obtain ⟨V2, hV2⟩ : ∃ V, w2.alloc (.cells #[.int .i64 PW, .int .i64 PH, .slice (some ⟨g, 0, none⟩) (4 * (PW * PH)) (4 * (PW * PH))] 31) = V := ⟨_, rfl⟩
      have k2 : Kept (fun _ => False) w2 V2 := by rw [← hV2]; exact (Kept.refl _ _).alloc _
      have c2 : V2.heap[w2.heap.size]? = some (.cells #[.int .i64 PW, .int .i64 PH, .slice (some ⟨g, 0, none⟩) (4 * (PW * PH)) (4 * (PW * PH))] 31 (0, 0)) := by rw [← hV2]; exact blk_new _ _
      have H2 := Lib.hid (And.intro (HKW.out.then (hk2.then k2)) (And.intro c2 (ho.kept k2 (fun _ _ => id))))
      obtain ⟨n4, hn4⟩ : ∃ n, 4 * (PW * PH) = n := ⟨_, rfl⟩
      rw [hn4] at H2 hV2 ⊢
      have HN4 := Lib.hid hn4
      clear hg ho hk2 k2 c2 y0 y1 y2 y3 y4 y5 y6 y7 y8 y9 y10 hn4
      go_wp2
      go_loopg [20, 21, 22, 23, 24] tot (fun gg iv _ _ _ _ wx => ∃ j : Nat, tot ≤ gg + j ∧ j ≤ tot ∧ iv = .int .i64 (j : Int) ∧ Kept (fun _ => False) V2 wx)
      case atStart => exact ⟨0, by omega, by omega, rfl, Kept.refl _ _⟩
      case round =>
        obtain ⟨j, hgj, hjt, rfl, hkj⟩ := hrel
        by_cases hj1 : j < tot
        · have r1 : decide (j < tot) = true := decide_eq_true hj1
          have r1' : decide ((j : Int) < (tot : Int)) = true := decide_eq_true (by omega)
          have wj : IntKind.i64.wrap ((j : Int) + 1) = (j : Int) + 1 := IntWalk.i64_in _ (by omega)
          obtain ⟨Cc, hCc⟩ : ∃ c, j % cols = c := ⟨_, rfl⟩
          obtain ⟨Rr, hRr⟩ : ∃ c, j / cols = c := ⟨_, rfl⟩
          have hcols : 0 < cols := by have := HB.out; omega
          have hCb : Cc < cols := by rw [← hCc]; exact Nat.mod_lt _ hcols
          have hRb : Rr < i := by rw [← hRr]; exact Nat.div_lt_of_lt_mul (by rw [Nat.mul_comm, HTT2.out]; exact hj1)
          have hjj : Rr * cols + Cc = j := by rw [← hRr, ← hCc, Nat.mul_comm]; exact Nat.div_add_mod j cols
          have tC : (j : Int).tmod (cols : Int) = (Cc : Int) := by rw [Int.tmod_eq_emod_of_nonneg (by omega), ← hCc]; exact (Int.natCast_emod j cols).symm
          have tR : (j : Int).tdiv (cols : Int) = (Rr : Int) := by rw [Int.tdiv_eq_ediv_of_nonneg (by omega), ← hRr]; exact (Int.natCast_ediv j cols).symm
          have hcut := HCUT.out Rr Cc hRb hCb
          rw [hjj] at hcut
          obtain ⟨X, hX⟩ : ∃ x, Cc * cw = x := ⟨_, rfl⟩
          obtain ⟨Y, hY⟩ : ∃ x, Rr * ch = x := ⟨_, rfl⟩
          have hXb : X ≤ 8 * 6 := by rw [← hX]; exact Nat.mul_le_mul (by have := HB.out; omega) (by have := HB.out; omega)
          have hYb : Y ≤ 5 * 6 := by rw [← hY]; exact Nat.mul_le_mul (by have := HB.out; omega) (by have := HB.out; omega)
          rw [hX, hY] at hcut
          have vX : (Cc : Int) * (cw : Int) = (X : Int) := by rw [← hX]; simp
          have vY : (Rr : Int) * (ch : Int) = (Y : Int) := by rw [← hY]; simp
          have wX : IntKind.i64.wrap (X : Int) = (X : Int) := IntWalk.i64_in _ (by omega)
          have wY : IntKind.i64.wrap (Y : Int) = (Y : Int) := IntWalk.i64_in _ (by omega)
          have wC : IntKind.i64.wrap (Cc : Int) = (Cc : Int) := IntWalk.i64_in _ (by have := HB.out; omega)
          have wR : IntKind.i64.wrap (Rr : Int) = (Rr : Int) := IntWalk.i64_in _ (by have := HB.out; omega)
          have zc1 : ¬ (cols : Int) = 0 := by omega
          have zc2 : ¬ cols = 0 := by omega
          have zc3 : ((cols : Int) == 0) = false := by simp; omega
          obtain ⟨CE, hCE⟩ : ∃ c, txtC xs R an j = c := ⟨_, rfl⟩
          have hcr := txtC_r HX.out.2.1 R an j
          rw [hCE] at hcut hcr
          obtain ⟨GL, hGL⟩ : ∃ x, glyP cw ch CE.r CE.a = x := ⟨_, rfl⟩
          rw [hGL] at hcut
          have hGLb : IsBytes GL := by rw [← hGL]; exact glyc_bytes _ _ _ _
          have hGLl : GL.length = 4 * (cw * ch) := by rw [← hGL]; exact glyc_len _ _ _ _
          -- the glyph, the cut, both the same
          have HGLY := Lib.hid (fun w => show Calls Try.prog 18 #[.int .i32 CE.r, .int .i64 cw, .int .i64 ch, .agg #[.int .i64 CE.a.fg, .int .i64 CE.a.bg, .int .i64 CE.a.fl]] w fun e w' => ∃ g n, e = .returned (.tuple #[.agg #[.int .i64 cw, .int .i64 ch, .slice (some ⟨g, 0, none⟩) n n], .int .i64 0]) ∧ SlAt .u8 w' (some ⟨g, 0, none⟩) n GL ∧ Kept (fun _ => False) w w' from by
            refine (glyph_yes CE.r cw ch CE.a w hcr (by have := HB.out; omega) (by have := HB.out; omega)).mono ?_
            rintro e w' ⟨g, he, -, ho, hk⟩
            rw [hGL] at ho
            exact ⟨g, _, he, by
              obtain ⟨a9, c9, hv9, hs9, -⟩ := ho.shape
              rw [hGLl] at hv9 hs9
              cases hv9
              exact hs9, hk⟩)
          have HCT := Lib.hid (fun (w' : World) (hk : Kept (fun _ => False) V2 w') => show Calls Try.prog 30 #[.agg #[.int .i64 PW, .int .i64 PH, .slice (some ⟨g, 0, none⟩) n4 n4], .int .i64 X, .int .i64 Y, .int .i64 cw, .int .i64 ch] w' fun e w'' => ∃ a' n' c', e = .returned (.agg #[.int .i64 cw, .int .i64 ch, .slice a' n' c']) ∧ SlAt .u8 w'' a' n' GL ∧ Kept (fun _ => False) w' w'' from by
            have hrm : rightM ⟨PW, PH, PIC⟩ = true := by
              have h := HPI.out
              unfold rightM sizeB
              rw [Bool.and_eq_true]
              refine ⟨decide_eq_true (.inr ⟨by show (1 : Int) ≤ (PW : Int); omega, by show (PW : Int) ≤ 16384; omega, by show (1 : Int) ≤ (PH : Int); omega, by show (PH : Int) ≤ 16384; omega, ?_⟩), decide_eq_true ?_⟩
              · show (PW : Int) * (PH : Int) ≤ 67108864
                rw [show (PW : Int) * (PH : Int) = ((PW * PH : Nat) : Int) by simp]; omega
              · show ((PIC.length : Nat) : Int) = 4 * (PW : Int) * (PH : Int)
                rw [h.2.1, Int.mul_assoc, show (PW : Int) * (PH : Int) = ((PW * PH : Nat) : Int) by simp]; omega
            have hs : SlAt .u8 w' (some ⟨g, 0, none⟩) n4 PIC := by
              have ho := H2.out.2.2.kept hk (fun _ _ => id)
              obtain ⟨a9, c9, hv9, hs9, -⟩ := ho.shape
              rw [HPI.out.2.1, HN4.out] at hv9 hs9
              cases hv9
              exact hs9
            refine (cut_any PW PH X Y cw ch PIC (some ⟨g, 0, none⟩) n4 n4 w' (by unfold I64; omega) (by unfold I64; omega) (by unfold I64; have := HB.out; omega) (by unfold I64; have := HB.out; omega) hrm hs (by have := HPI.out; have := HN4.out; omega) (Nat.le_refl _) (by have := HPI.out; have := HN4.out; omega)).mono ?_
            rintro e w'' ⟨v, he, ho, hk2, -⟩
            rw [hcut] at he ho
            obtain ⟨a9, c9, rfl, hs9, -⟩ := ho.shape
            exact ⟨a9, _, c9, he, hs9, hk2⟩)
          have HSM := Lib.hid (fun (w' : World) (a1 a2 : Option Addr) (n1 n2 c1 c2 : Nat) (h1 : SlAt .u8 w' a1 n1 GL) (h2 : SlAt .u8 w' a2 n2 GL) => show Calls Try.prog 29 #[.agg #[.int .i64 cw, .int .i64 ch, .slice a1 n1 c1], .agg #[.int .i64 cw, .int .i64 ch, .slice a2 n2 c2]] w' fun e w'' => e = .returned (.bool true) ∧ Kept (fun _ => False) w' w'' from by
            have h := same_any ⟨cw, ch, GL⟩ ⟨cw, ch, GL⟩ a1 a2 n1 n2 c1 c2 w' h1 h2 hGLb hGLb
            rw [sameM_self] at h
            exact h)
          obtain ⟨Z0, hZ0⟩ : ∃ Z, wr.alloc (.cells #[.int .i64 0, .int .i64 0, .int .i64 0] 54) = Z := ⟨_, rfl⟩
          have kZ0 : Kept (fun _ => False) wr Z0 := by rw [← hZ0]; exact (Kept.refl _ _).alloc _
          have bZ0 : Z0.heap[wr.heap.size]? = some (.cells #[.int .i64 0, .int .i64 0, .int .i64 0] 54 (0, 0)) := by rw [← hZ0]; exact blk_new _ _
          have hkW := (H2.out.1.then hkj).then kZ0
          have j0 : (0 : Int) ≤ (j : Int) := by omega
          by_cases hjl : j < ln
          · have r2 : decide (j < ln) = true := decide_eq_true hjl
            have r2' : decide ((j : Int) < (ln : Int)) = true := decide_eq_true (by omega)
            have j1 : (j : Int) < (ln : Int) := by omega
            obtain ⟨b, off, rfl, hcell⟩ := HX.out.1.2.resolve_left (by omega)
            obtain ⟨xj, hxj⟩ : ∃ x, xs.getD j 0 = x := ⟨_, rfl⟩
            have yy := hcell j hjl
            rw [hxj] at yy
            have y1 := hkW.cell yy id
            by_cases hpos : 0 < xj
            · have r3 : decide (0 < xj) = true := decide_eq_true hpos
              obtain ⟨m, hm⟩ : ∃ m, j % an = m := ⟨_, rfl⟩
              have hman : m < an := by rw [← hm]; exact Nat.mod_lt _ HB.out.2.2.2.2.2.1
              have hce := HCY.out j hjl (by rw [hxj]; exact hpos)
              rw [HCC.out, hCE, hxj, hm] at hce
              obtain ⟨ab, ao, rfl, -, hal⟩ := HX.out.2.2.1.resolve_left (by omega)
              obtain ⟨l0, l1, l2⟩ := hal m hman
              rw [← Nat.add_assoc] at l1 l2
              obtain ⟨RM, hRM⟩ : ∃ r, R m = r := ⟨_, rfl⟩
              rw [hRM] at l0 l1 l2 hce
              obtain ⟨fg, bg, fl⟩ := RM
              simp only at l0 l1 l2
              have l0 := hkW.cell l0 id
              have l1 := hkW.cell l1 id
              have l2 := hkW.cell l2 id
              have tm : (j : Int).tmod (an : Int) = (m : Int) := by
                rw [Int.tmod_eq_emod_of_nonneg (by omega), ← hm]
                exact (Int.natCast_emod j an).symm
              have wm : IntKind.i64.wrap (m : Int) = (m : Int) := IntWalk.i64_in _ (by have := HB.out; omega)
              have m0 : (0 : Int) ≤ (m : Int) := by omega
              have m1 : (m : Int) < (an : Int) := by omega
              have an0 : ¬ (an : Int) = 0 := by omega
              have an0' : ¬ an = 0 := by omega
              obtain ⟨U1, U2, U3, f1, f2, f3, ⟨q0, q0'⟩, ⟨q1, q1'⟩, ⟨q2, q2'⟩, bU, kU⟩ := store3 bZ0 (.int .i64 fg) (.int .i64 bg) (.int .i64 fl)
              have U3k : Kept (fun _ => False) wr U3 := kZ0.trans (kU.mono fun i _ hi => Or.inr (by have h9 : i = wr.heap.size := hi; omega))
              have U3b := bU
              clear kZ0 bZ0 hkW hcell yy hxj hm hRM hal bU kU
              rw [hce] at HGLY
              simp only at HGLY
              obtain ⟨z0', z1', z2'⟩ := blk3 (U3b)
              obtain ⟨⟨z0, -⟩, ⟨z1, -⟩, z2, -⟩ := blk3 (U3b)
              have HZ := Lib.hid (hkj.then U3k)
              clear hce hcut hcr hGL hGLb hGLl hkj hCE U3k U3b z0' z1' z2' hX hY hCc hRr hjj
              go_wp2_with fail
              refine (HGLY.out _).mono ?_
              rintro e w3 ⟨gg3, n3, rfl, hs3, hk3⟩
              obtain ⟨G1, hG1⟩ : ∃ G1, w3.alloc (.cells #[.int .i64 cw, .int .i64 ch, .slice (some ⟨gg3, 0, none⟩) n3 n3] 31) = G1 := ⟨_, rfl⟩
              have kG1 : Kept (fun _ => False) w3 G1 := by rw [← hG1]; exact (Kept.refl _ _).alloc _
              have bG1 : G1.heap[w3.heap.size]? = some (.cells #[.int .i64 cw, .int .i64 ch, .slice (some ⟨gg3, 0, none⟩) n3 n3] 31 (0, 0)) := by rw [← hG1]; exact blk_new _ _
              obtain ⟨WR, hWR⟩ : ∃ WR, WR = G1.drew := ⟨_, rfl⟩
              have kR : Kept (fun _ => False) G1 WR := by rw [hWR]; exact (Kept.refl _ _).drew
              have kAll := HZ.out.then (hk3.then (kG1.then kR))
              obtain ⟨⟨d0, -⟩, ⟨d1, -⟩, d2, -⟩ := blk3 (kR.blk bG1 id)
              obtain ⟨⟨e0, -⟩, ⟨e1, -⟩, e2, -⟩ := blk3 (kAll.blk H2.out.2.1 id)
              have X0 := cell_regrown d0
              have X1 := cell_regrown d1
              have X2 := cell_regrown d2
              have Y0 := cell_regrown e0
              have Y1 := cell_regrown e1
              have Y2 := cell_regrown e2
              have HKA := Lib.hid (And.intro kAll (hs3.up (kG1.then kR)))
              obtain ⟨RC, hRC⟩ : ∃ R : Value → World → Prop, R = fun v w' => ∃ a' n' c', v = .agg #[.int .i64 cw, .int .i64 ch, .slice a' n' c'] ∧ SlAt .u8 w' a' n' GL := ⟨_, rfl⟩
              obtain ⟨RS, hRS⟩ : ∃ R : Value → World → Prop, R = fun v _ => v = .bool true := ⟨_, rfl⟩
              have HRC := Lib.hid hRC
              have HRS := Lib.hid hRS
              have HWR := Lib.hid hWR
              clear hs3 hk3 kG1 bG1 hWR kR kAll d0 d1 d2 e0 e1 e2 hRC hRS z0 z1 z2
              go_wp2
              refine A2.wp_region_grow (fun _ => false) #[0, 1, 3, 7, 7, 7, 7, 103, 7, 487, 7, 7, 3079, 7, 15367, 7, 7, 131063, 262143, 524287, 1048575] 21 [] (fun j => if j = 17 then some RC else if j = 18 then some RS else none) (by kernel_rfl) rfl (by kernel_rfl) (fun i hi => by cases hi) (fun _ _ _ _ _ h => h) ?_
              rintro _ rfl
              rw [← HWR.out]
              simp only [List.take_succ_cons, List.take_zero, List.drop_succ_cons, List.drop_zero, A2.number, Nat.reduceAdd]
              repeat (refine A2.wpGrow_step (fun K hK => ?_); go_simp; refine hK _ _ ?_; clear hK K)
              refine A2.wpGrow_step (fun K hK => ?_)
              go_simp
              refine ⟨fun w' hg => ?_, fun v4 w4 hv4 hg4 _ => ?_⟩
              · with_reducible refine (HCT.out w' (HKA.out.1.then hg.old)).mono ?_
                exact (fun e9 w'' ⟨a', n', c', he, hs, hk⟩ => ⟨_, he, hk, by rw [HRC.out]; exact ⟨a', n', c', rfl, hs⟩⟩)
              rw [HRC.out] at hv4
              obtain ⟨a', n', c', rfl, hs4⟩ := hv4
              have HS4 := Lib.hid hs4
              clear hs4
              refine hK _ _ ?_; clear hK K
              refine A2.wpGrow_step (fun K hK => ?_)
              go_simp
              refine ⟨fun w' hg => ?_, fun v5 w5 hv5 hg5 _ => ?_⟩
              · have hs17 : SlAt .u8 w' a' n' GL := HS4.out.up (show Kept (fun _ => False) w4 w' from hg.seen 17 rfl)
                with_reducible refine (HSM.out w' (some ⟨gg3, 0, none⟩) a' n3 n' n3 c' (HKA.out.2.up hg.old) hs17).mono ?_
                exact (fun e9 w'' ⟨he, hk⟩ => ⟨_, he, hk, by rw [HRS.out]⟩)
              rw [HRS.out] at hv5
              subst hv5
              refine hK _ _ ?_; clear hK K
              repeat (refine A2.wpGrow_step (fun K hK => ?_); go_simp; refine hK _ _ ?_; clear hK K)
              refine A2.wpGrow_nil ?_
              intro w6 hk6 hω
              have HE := Lib.hid (HKA.out.1.then hk6)
              clear hω hk6 hg4 hg5 X0 X1 X2 Y0 Y1 Y2
              go_wp2
              go_roundg (gk - 1)
              case rel => exact ⟨j + 1, by omega, by omega, by go_num, HE.out⟩
              case measure => omega
            · have r3 : decide (0 < xj) = false := decide_eq_false hpos
              have hce := HCN.out j (fun h => hpos (by rw [← hxj]; exact h.2))
              rw [HCC.out, hCE] at hce
              have Z0k := kZ0
              have Z0b := bZ0
              clear kZ0 bZ0 hkW hcell yy hxj
              rw [hce] at HGLY
              simp only at HGLY
              obtain ⟨z0', z1', z2'⟩ := blk3 (Z0b)
              obtain ⟨⟨z0, -⟩, ⟨z1, -⟩, z2, -⟩ := blk3 (Z0b)
              have HZ := Lib.hid (hkj.then Z0k)
              clear hce hcut hcr hGL hGLb hGLl hkj hCE Z0k Z0b z0' z1' z2' hX hY hCc hRr hjj
              go_wp2_with fail
              refine (HGLY.out _).mono ?_
              rintro e w3 ⟨gg3, n3, rfl, hs3, hk3⟩
              obtain ⟨G1, hG1⟩ : ∃ G1, w3.alloc (.cells #[.int .i64 cw, .int .i64 ch, .slice (some ⟨gg3, 0, none⟩) n3 n3] 31) = G1 := ⟨_, rfl⟩
              have kG1 : Kept (fun _ => False) w3 G1 := by rw [← hG1]; exact (Kept.refl _ _).alloc _
              have bG1 : G1.heap[w3.heap.size]? = some (.cells #[.int .i64 cw, .int .i64 ch, .slice (some ⟨gg3, 0, none⟩) n3 n3] 31 (0, 0)) := by rw [← hG1]; exact blk_new _ _
              obtain ⟨WR, hWR⟩ : ∃ WR, WR = G1.drew := ⟨_, rfl⟩
              have kR : Kept (fun _ => False) G1 WR := by rw [hWR]; exact (Kept.refl _ _).drew
              have kAll := HZ.out.then (hk3.then (kG1.then kR))
              obtain ⟨⟨d0, -⟩, ⟨d1, -⟩, d2, -⟩ := blk3 (kR.blk bG1 id)
              obtain ⟨⟨e0, -⟩, ⟨e1, -⟩, e2, -⟩ := blk3 (kAll.blk H2.out.2.1 id)
              have X0 := cell_regrown d0
              have X1 := cell_regrown d1
              have X2 := cell_regrown d2
              have Y0 := cell_regrown e0
              have Y1 := cell_regrown e1
              have Y2 := cell_regrown e2
              have HKA := Lib.hid (And.intro kAll (hs3.up (kG1.then kR)))
              obtain ⟨RC, hRC⟩ : ∃ R : Value → World → Prop, R = fun v w' => ∃ a' n' c', v = .agg #[.int .i64 cw, .int .i64 ch, .slice a' n' c'] ∧ SlAt .u8 w' a' n' GL := ⟨_, rfl⟩
              obtain ⟨RS, hRS⟩ : ∃ R : Value → World → Prop, R = fun v _ => v = .bool true := ⟨_, rfl⟩
              have HRC := Lib.hid hRC
              have HRS := Lib.hid hRS
              have HWR := Lib.hid hWR
              clear hs3 hk3 kG1 bG1 hWR kR kAll d0 d1 d2 e0 e1 e2 hRC hRS z0 z1 z2
              go_wp2
              refine A2.wp_region_grow (fun _ => false) #[0, 1, 3, 7, 7, 7, 7, 103, 7, 487, 7, 7, 3079, 7, 15367, 7, 7, 131063, 262143, 524287, 1048575] 21 [] (fun j => if j = 17 then some RC else if j = 18 then some RS else none) (by kernel_rfl) rfl (by kernel_rfl) (fun i hi => by cases hi) (fun _ _ _ _ _ h => h) ?_
              rintro _ rfl
              rw [← HWR.out]
              simp only [List.take_succ_cons, List.take_zero, List.drop_succ_cons, List.drop_zero, A2.number, Nat.reduceAdd]
              repeat (refine A2.wpGrow_step (fun K hK => ?_); go_simp; refine hK _ _ ?_; clear hK K)
              refine A2.wpGrow_step (fun K hK => ?_)
              go_simp
              refine ⟨fun w' hg => ?_, fun v4 w4 hv4 hg4 _ => ?_⟩
              · with_reducible refine (HCT.out w' (HKA.out.1.then hg.old)).mono ?_
                exact (fun e9 w'' ⟨a', n', c', he, hs, hk⟩ => ⟨_, he, hk, by rw [HRC.out]; exact ⟨a', n', c', rfl, hs⟩⟩)
              rw [HRC.out] at hv4
              obtain ⟨a', n', c', rfl, hs4⟩ := hv4
              have HS4 := Lib.hid hs4
              clear hs4
              refine hK _ _ ?_; clear hK K
              refine A2.wpGrow_step (fun K hK => ?_)
              go_simp
              refine ⟨fun w' hg => ?_, fun v5 w5 hv5 hg5 _ => ?_⟩
              · have hs17 : SlAt .u8 w' a' n' GL := HS4.out.up (show Kept (fun _ => False) w4 w' from hg.seen 17 rfl)
                with_reducible refine (HSM.out w' (some ⟨gg3, 0, none⟩) a' n3 n' n3 c' (HKA.out.2.up hg.old) hs17).mono ?_
                exact (fun e9 w'' ⟨he, hk⟩ => ⟨_, he, hk, by rw [HRS.out]⟩)
              rw [HRS.out] at hv5
              subst hv5
              refine hK _ _ ?_; clear hK K
              repeat (refine A2.wpGrow_step (fun K hK => ?_); go_simp; refine hK _ _ ?_; clear hK K)
              refine A2.wpGrow_nil ?_
              intro w6 hk6 hω
              have HE := Lib.hid (HKA.out.1.then hk6)
              clear hω hk6 hg4 hg5 X0 X1 X2 Y0 Y1 Y2
              go_wp2
              go_roundg (gk - 1)
              case rel => exact ⟨j + 1, by omega, by omega, by go_num, HE.out⟩
              case measure => omega
          · have r2 : decide (j < ln) = false := decide_eq_false hjl
            have r2' : decide ((j : Int) < (ln : Int)) = false := decide_eq_false (by omega)
            have hce := HCN.out j (fun h => hjl h.1)
            rw [HCC.out, hCE] at hce
            have Z0k := kZ0
            have Z0b := bZ0
            clear kZ0 bZ0 hkW
            rw [hce] at HGLY
            simp only at HGLY
            obtain ⟨z0', z1', z2'⟩ := blk3 (Z0b)
            obtain ⟨⟨z0, -⟩, ⟨z1, -⟩, z2, -⟩ := blk3 (Z0b)
            have HZ := Lib.hid (hkj.then Z0k)
            clear hce hcut hcr hGL hGLb hGLl hkj hCE Z0k Z0b z0' z1' z2' hX hY hCc hRr hjj
            go_wp2_with fail
            refine (HGLY.out _).mono ?_
            rintro e w3 ⟨gg3, n3, rfl, hs3, hk3⟩
            obtain ⟨G1, hG1⟩ : ∃ G1, w3.alloc (.cells #[.int .i64 cw, .int .i64 ch, .slice (some ⟨gg3, 0, none⟩) n3 n3] 31) = G1 := ⟨_, rfl⟩
            have kG1 : Kept (fun _ => False) w3 G1 := by rw [← hG1]; exact (Kept.refl _ _).alloc _
            have bG1 : G1.heap[w3.heap.size]? = some (.cells #[.int .i64 cw, .int .i64 ch, .slice (some ⟨gg3, 0, none⟩) n3 n3] 31 (0, 0)) := by rw [← hG1]; exact blk_new _ _
            obtain ⟨WR, hWR⟩ : ∃ WR, WR = G1.drew := ⟨_, rfl⟩
            have kR : Kept (fun _ => False) G1 WR := by rw [hWR]; exact (Kept.refl _ _).drew
            have kAll := HZ.out.then (hk3.then (kG1.then kR))
            obtain ⟨⟨d0, -⟩, ⟨d1, -⟩, d2, -⟩ := blk3 (kR.blk bG1 id)
            obtain ⟨⟨e0, -⟩, ⟨e1, -⟩, e2, -⟩ := blk3 (kAll.blk H2.out.2.1 id)
            have X0 := cell_regrown d0
            have X1 := cell_regrown d1
            have X2 := cell_regrown d2
            have Y0 := cell_regrown e0
            have Y1 := cell_regrown e1
            have Y2 := cell_regrown e2
            have HKA := Lib.hid (And.intro kAll (hs3.up (kG1.then kR)))
            obtain ⟨RC, hRC⟩ : ∃ R : Value → World → Prop, R = fun v w' => ∃ a' n' c', v = .agg #[.int .i64 cw, .int .i64 ch, .slice a' n' c'] ∧ SlAt .u8 w' a' n' GL := ⟨_, rfl⟩
            obtain ⟨RS, hRS⟩ : ∃ R : Value → World → Prop, R = fun v _ => v = .bool true := ⟨_, rfl⟩
            have HRC := Lib.hid hRC
            have HRS := Lib.hid hRS
            have HWR := Lib.hid hWR
            clear hs3 hk3 kG1 bG1 hWR kR kAll d0 d1 d2 e0 e1 e2 hRC hRS z0 z1 z2
            go_wp2
            refine A2.wp_region_grow (fun _ => false) #[0, 1, 3, 7, 7, 7, 7, 103, 7, 487, 7, 7, 3079, 7, 15367, 7, 7, 131063, 262143, 524287, 1048575] 21 [] (fun j => if j = 17 then some RC else if j = 18 then some RS else none) (by kernel_rfl) rfl (by kernel_rfl) (fun i hi => by cases hi) (fun _ _ _ _ _ h => h) ?_
            rintro _ rfl
            rw [← HWR.out]
            simp only [List.take_succ_cons, List.take_zero, List.drop_succ_cons, List.drop_zero, A2.number, Nat.reduceAdd]
            repeat (refine A2.wpGrow_step (fun K hK => ?_); go_simp; refine hK _ _ ?_; clear hK K)
            refine A2.wpGrow_step (fun K hK => ?_)
            go_simp
            refine ⟨fun w' hg => ?_, fun v4 w4 hv4 hg4 _ => ?_⟩
            · with_reducible refine (HCT.out w' (HKA.out.1.then hg.old)).mono ?_
              exact (fun e9 w'' ⟨a', n', c', he, hs, hk⟩ => ⟨_, he, hk, by rw [HRC.out]; exact ⟨a', n', c', rfl, hs⟩⟩)
            rw [HRC.out] at hv4
            obtain ⟨a', n', c', rfl, hs4⟩ := hv4
            have HS4 := Lib.hid hs4
            clear hs4
            refine hK _ _ ?_; clear hK K
            refine A2.wpGrow_step (fun K hK => ?_)
            go_simp
            refine ⟨fun w' hg => ?_, fun v5 w5 hv5 hg5 _ => ?_⟩
            · have hs17 : SlAt .u8 w' a' n' GL := HS4.out.up (show Kept (fun _ => False) w4 w' from hg.seen 17 rfl)
              with_reducible refine (HSM.out w' (some ⟨gg3, 0, none⟩) a' n3 n' n3 c' (HKA.out.2.up hg.old) hs17).mono ?_
              exact (fun e9 w'' ⟨he, hk⟩ => ⟨_, he, hk, by rw [HRS.out]⟩)
            rw [HRS.out] at hv5
            subst hv5
            refine hK _ _ ?_; clear hK K
            repeat (refine A2.wpGrow_step (fun K hK => ?_); go_simp; refine hK _ _ ?_; clear hK K)
            refine A2.wpGrow_nil ?_
            intro w6 hk6 hω
            have HE := Lib.hid (HKA.out.1.then hk6)
            clear hω hk6 hg4 hg5 X0 X1 X2 Y0 Y1 Y2
            go_wp2
            go_roundg (gk - 1)
            case rel => exact ⟨j + 1, by omega, by omega, by go_num, HE.out⟩
            case measure => omega
        · obtain rfl : j = tot := by omega
          have r1 : decide (j < j) = false := decide_eq_false (by omega)
          have HE := Lib.hid (H2.out.1.then hkj)
          clear hkj
          go_wp2
          exact bodyPost_ret (v := .bool true) (by simp [results, Try.results8, go_sem]) rfl ⟨rfl, HE.out.below⟩
theorem i32_in {x : Int} (h : (Lit.int .i32 x).wf = true) : -2147483648 ≤ x ∧ x ≤ 2147483647 := by simp [Lit.wf, IntKind.min, IntKind.max, IntKind.signed, IntKind.bits] at h; omega
theorem law_text {rows cols cw ch : Int} {a0 : Option Addr} {ln lc : Nat} {zs : List Int} {aa : Option Addr} {an ac : Nat} {R : Nat → Look} {w : World} (f4 : IsRow .i32 w a0 ln lc zs) (f5 : IsLooks w aa an R ∧ an ≤ ac ∧ ac ≤ maxLen) :
    Calls Try.prog 8 #[.int .i64 rows, .int .i64 cols, .int .i64 cw, .int .i64 ch, .slice a0 ln lc, .slice aa an ac] w fun e w' => e = .returned (.bool true) ∧ Below w.heap.size w w' := by
  by_cases h : rows < 1 ∨ cols < 1 ∨ 5 < rows ∨ 8 < cols ∨ cw < 1 ∨ ch < 1 ∨ 6 < cw ∨ 6 < ch ∨ 40 < ln ∨ an = 0
  · exact text_early rows cols cw ch a0 ln lc zs aa an ac R w h
  · obtain ⟨r', rfl⟩ : ∃ k : Nat, rows = (k : Int) := ⟨rows.toNat, by omega⟩
    obtain ⟨c', rfl⟩ : ∃ k : Nat, cols = (k : Int) := ⟨cols.toNat, by omega⟩
    obtain ⟨w', rfl⟩ : ∃ k : Nat, cw = (k : Int) := ⟨cw.toNat, by omega⟩
    obtain ⟨h', rfl⟩ : ∃ k : Nat, ch = (k : Int) := ⟨ch.toNat, by omega⟩
    obtain ⟨h1, h2, h3, h4, h5, h6⟩ := f4.slAt
    have hm : (9223372036854775807 : Nat) = maxLen := rfl
    exact text_go r' c' w' h' a0 ln lc (zs.take ln) aa an ac R w (by omega) (by omega) (by omega) (by omega) (by omega) (by omega) h1 (fun x hx => i32_in (h4 x hx)) f5.1
end Go.Proofs.Ytdjgmhbfohbenaa
