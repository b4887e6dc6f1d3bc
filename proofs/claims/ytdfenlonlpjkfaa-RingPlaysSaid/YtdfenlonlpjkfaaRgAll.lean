/- All: what it hands out. -/
import Derived.Test.YtdfenlonlpjkfaaRg
import Derived.Test.YtdfenlonlpjkfaaGrowD
namespace Go.Proofs.Ytdfenlonlpjkfaa
open Go.RowKit
set_option linter.unusedVariables false
set_option linter.unusedSimpArgs false
attribute [local go_sem] D.growOp D.growUpon D.sameUpon D.ran
theorem D.KD.kept {Dt : D.Dirt} {W A B : World} (h : D.KD Dt W A B) : Kept (fun i => ∃ o, A.heap[i]? = some o ∧ Dt.dirty o = true) A B := by
  obtain ⟨h1, h2, h3, h4, h5⟩ := h
  refine ⟨h1, h2, h3, h4, fun i hi hn => ?_⟩
  rcases h5 i hi with h | ⟨-, c, c', t, f, e1, e2, -⟩
  · exact h
  · exact absurd ⟨_, e1, e2⟩ hn
theorem OwnV.clean {e : TypeId} {w : World} {v : Value} {xs : List Value} (h : OwnV e w v xs) {b : Nat} (hb : v.ownBlock = some b) : ∃ cur, w.heap[b]? = some (.cells cur e (0, 0)) := by
  obtain ⟨h1, h2⟩ := h
  rcases h2 with ⟨rfl, -⟩ | ⟨g, cap, cur, rfl, -, hg, -⟩
  · cases hb
  · cases hb; exact ⟨cur, hg⟩
theorem OwnV.kd {Dt : D.Dirt} {W A B : World} {e : TypeId} {v : Value} {xs : List Value} (h : OwnV e A v xs) (hk : D.KD Dt W A B) (hD : ∀ c f, Dt.dirty (.cells c e f) = false) : OwnV e B v xs :=
  h.kept hk.kept (fun b hb => by rintro ⟨o, h1, h2⟩; obtain ⟨cur, h3⟩ := h.clean hb; rw [h1] at h3; cases h3; rw [hD] at h2; cases h2)
/-- A variable for a slice. -/
def newV : Obj → Bool
  | .cells c t _ => t == 22 && c.size == 1
  | _ => false
def dV : D.Dirt := ⟨26, newV⟩
theorem newV_elem (c : Array Value) (f : Nat × Nat) : newV (.cells c 3 f) = false := rfl
theorem newV_num (c : Array Value) (f : Nat × Nat) : newV (.cells c 2 f) = false := rfl
theorem newV_two (x y : Value) (t : TypeId) (f : Nat × Nat) : newV (.cells #[x, y] t f) = false := by unfold newV; simp
theorem one_of {w : World} {b : Nat} {c : Array Value} {t : TypeId} {f : Nat × Nat} (h : w.heap[b]? = some (.cells c t f)) (hs : c.size = 1) : ∃ z, w.heap[b]? = some (.cells #[z] t f) := by
  obtain ⟨l⟩ := c
  match l, hs with
  | [z], _ => exact ⟨z, h⟩
set_option maxRecDepth 100000 in
set_option maxHeartbeats 4000000 in
theorem all_some (q most at' gone : Nat) (xs : List Value) (L : List Int) (o : Option Nat) (w : World) (h : RAt 48 3 w q most at' gone xs o) (ha : at' < xs.length) (hl : xs.length ≤ 65536) (hL : xs.drop at' ++ xs.take at' = iv L) :
    Calls Try.prog 26 #[.pointer (some ⟨q, 0, none⟩)] w fun e w' => ∃ b c v, e = .returned (.func (.func 29) #[] #[.pointer (some ⟨b, 0, none⟩), .pointer (some ⟨c, 0, none⟩)]) ∧ w'.heap[b]? = some (.cells #[v] 22 (0, 0)) ∧ w'.heap[c]? = some (.cells #[.int .i64 gone] 2 (0, 0)) ∧ OwnV 3 w' v (iv L) ∧ Kept (fun _ => False) w w' ∧ w.heap.size ≤ b ∧ w.heap.size ≤ c ∧ (L ≠ [] → ∀ g, v.ownBlock = some g → w.heap.size ≤ g) := by
  have h1 : ∀ u ∈ xs, u.oneCell' = true := mem_rot (at' := at') (by rw [hL]; exact iv_one _)
  have hLl : L.length = xs.length := by have := congrArg List.length hL; simp at this; omega
  obtain ⟨v, hb, ho, hvo, hoq⟩ := h
  obtain ⟨a, cap, rfl, hcap, hcm, -, hg, -⟩ := ho.shape
  obtain ⟨g, rfl⟩ := hg (by omega)
  obtain ⟨n, hn⟩ : ∃ n, xs.length = n := ⟨_, rfl⟩
  rw [hn] at ho hvo hcap ha hl hb hLl
  obtain ⟨WR, hWR⟩ : ∃ WR, WR = w.drew := ⟨_, rfl⟩
  have kR : Kept (fun _ => False) w WR := by rw [hWR]; exact (Kept.refl _ w).drew
  obtain ⟨⟨d0, -⟩, ⟨d1, -⟩, ⟨d2, -⟩, d3, -⟩ := blk4 (kR.blk hb id)
  have X0 := cell_regrown d0
  have X1 := cell_regrown d1
  have X2 := cell_regrown d2
  have X3 := cell_regrown d3
  have hoR := ho.kept kR (fun _ _ => id)
  have S1 := hoR.sub at' (n - at') (by omega)
  have S2 := hoR.sub 0 at' (by omega)
  rw [List.take_of_length_le (by simp; omega)] at S1
  rw [List.drop_zero] at S2
  have HS1 := Lib.hid S1
  have HS2 := Lib.hid S2
  have HLL := Lib.hid (And.intro hL hLl)
  have HKR := Lib.hid kR
  have HWR := Lib.hid hWR
  have HX1 := Lib.hid (show ∀ u ∈ xs.drop at', u.oneCell' = true from fun u hu => h1 u (List.mem_of_mem_drop hu))
  have HX2 := Lib.hid (show ∀ u ∈ xs.take at', u.oneCell' = true from fun u hu => h1 u (List.mem_of_mem_take hu))
  obtain ⟨RB, hRB⟩ : ∃ R : Value → World → Prop, R = fun v w' => ∃ p, v = .slice (some ⟨p, 0, none⟩) 2 2 ∧ w'.heap[p]? = some (.cells #[.slice (some ⟨g, at', none⟩) (n - at') (cap - at'), .slice (some ⟨g, 0, none⟩) at' cap] 22 (0, 0)) := ⟨_, rfl⟩
  obtain ⟨RC, hRC⟩ : ∃ R : Value → World → Prop, R = fun v w' => (∃ a c, v = .slice (some a) n c) ∧ OwnV 3 w' v (iv L) ∧ ∀ g, v.ownBlock = some g → WR.heap.size ≤ g := ⟨_, rfl⟩
  obtain ⟨RD, hRD⟩ : ∃ R : Value → World → Prop, R = fun v w' => ∃ b, v = .pointer (some ⟨b, 0, none⟩) ∧ WR.heap.size ≤ b ∧ w'.heap[b]? = some (.cells #[.slice none 0 0] 22 (0, 0)) := ⟨_, rfl⟩
  obtain ⟨RE, hRE⟩ : ∃ R : Value → World → Prop, R = fun v w' => ∃ b, v = .pointer (some ⟨b, 0, none⟩) ∧ WR.heap.size ≤ b ∧ w'.heap[b]? = some (.cells #[.int .i64 0] 2 (0, 0)) := ⟨_, rfl⟩
  have HRB := Lib.hid hRB
  have HRC := Lib.hid hRC
  have HRD := Lib.hid hRD
  have HRE := Lib.hid hRE
  have l1 : 0 ≤ (at' : Int) := by omega
  have l2 : at' ≤ n := by omega
  have l3 : at' ≤ cap := by omega
  have hne : ¬ (cap = at') := by omega
  clear hRB hRC hRD hRE hb ho kR d0 d1 d2 d3 hoR S1 S2 hn hL hLl hWR h1 hvo hoq
  go_enter Try.func26, Try.ntmps26
  go_wp2
  refine D.wp_region_grow (Dt := dV) #[0, 1, 3, 7, 0, 16, 48, 112, 255, 0, 512, 1536, 3584, 0, 8192, 24576, 57344, 130560, 262143, 524287, 0, 1048576, 3145728, 7340032, 0, 0, 51380223, 134217727] 27 [] (fun i => if i = 18 then some RB else if i = 19 then some RC else if i = 24 then some RD else if i = 25 then some RE else if i = 26 then some (fun _ _ => True) else none) (by kernel_rfl) rfl (by kernel_rfl) (fun i hi => by cases hi) (fun _ _ _ _ _ h => h) ?_
  rintro _ rfl
  rw [← HWR.out]
  simp only [List.take_succ_cons, List.take_zero, List.drop_succ_cons, List.drop_zero, D.number, Nat.reduceAdd]
  repeat (refine D.wpGrow_step (fun K hK => ?_); go_simp; refine hK _ _ ?_; clear hK K)
  refine D.wpGrow_step (fun K hK => ?_)
  go_simp
  refine ⟨fun w' hg => ⟨D.KU.of ((Kept.refl _ _).alloc _), by rw [HRB.out]; exact ⟨_, rfl, blk_new _ _⟩⟩, fun v u18 hv => ?_⟩
  intros
  rw [HRB.out] at hv
  obtain ⟨p, rfl, hp⟩ := hv
  have HP := Lib.hid hp
  clear hp
  refine hK _ _ ?_; clear hK K
  refine D.wpGrow_step (fun K hK => ?_)
  go_simp
  refine ⟨fun w' hg => (concat_any p g at' 0 (n - at') (cap - at') at' cap _ _ w' ((hg.seen 18 (by kernel_rfl)).2.blk HP.out (by rfl)) (HS1.out.up hg.old.old) (HS2.out.up hg.old.old) HX1.out HX2.out (by omega) (by omega)).mono (fun e w'' ⟨v, he, ho, hk, hf⟩ => ⟨v, he, D.KU.of hk, by
    rw [HRC.out]
    rw [HLL.out.1] at ho
    obtain ⟨a, c, hv, -, -, -, hg2, -⟩ := ho.shape
    obtain ⟨g2, rfl⟩ := hg2 (by have := HLL.out.2; simp [iv]; omega)
    exact ⟨⟨⟨g2, 0, none⟩, c, by rw [hv]; simp [iv, HLL.out.2]⟩, ho, fun b hb => Nat.le_trans hg.old.size (hf b hb)⟩⟩), fun v u19 hv => ?_⟩
  intros
  rw [HRC.out] at hv
  obtain ⟨⟨ra, rc, rfl⟩, hro⟩ := hv
  have HRO := Lib.hid hro
  clear hro
  refine hK _ _ ?_; clear hK K
  repeat (refine D.wpGrow_step (fun K hK => ?_); go_simp; refine hK _ _ ?_; clear hK K)
  refine D.wpGrow_step (fun K hK => ?_)
  go_simp
  refine ⟨fun w' hg => ⟨D.KU.of ((Kept.refl _ _).alloc _), by rw [HRD.out]; exact ⟨_, rfl, hg.old.size, blk_new _ _⟩⟩, fun v u24 hv => ?_⟩
  intros
  rw [HRD.out] at hv
  obtain ⟨b, rfl, hbW, hb24⟩ := hv
  have H24 := Lib.hid (And.intro hbW hb24)
  clear hbW hb24
  refine hK _ _ ?_; clear hK K
  refine D.wpGrow_step (fun K hK => ?_)
  go_simp
  refine ⟨fun w' hg => ⟨D.KU.of ((Kept.refl _ _).alloc _), by rw [HRE.out]; exact ⟨_, rfl, hg.old.size, blk_new _ _⟩⟩, fun v u25 hv => ?_⟩
  intros
  rw [HRE.out] at hv
  obtain ⟨c, rfl, hcW, hc25⟩ := hv
  have H25 := Lib.hid (And.intro hcW hc25)
  clear hcW hc25
  refine hK _ _ ?_; clear hK K
  refine D.wpGrow_step (fun K hK => ?_)
  go_simp
  have key : ∀ x, D.KR dV WR 24 u24 x → ∃ z, x.heap[b]? = some (.cells #[z] 22 (0, 0)) := fun x hx => by
    obtain ⟨c', h1, h2⟩ := hx.2.kind H24.out.2
    exact one_of h1 h2
  refine ⟨fun w' hg => ?_, fun v u26 hg26 w0 hg0 hn => ?_⟩
  · obtain ⟨z, hz⟩ := key w' (show D.KR dV WR 24 u24 w' from hg.seen 24 (by kernel_rfl))
    obtain ⟨e1, e2⟩ := blk1 hz
    rw [e1, e2]
    exact D.KU.kd (D.KD.set hz rfl H24.out.1 0 _) rfl
  obtain ⟨z, hz⟩ := key w0 (show D.KR dV WR 24 u24 w0 from hg0.seen 24 (by kernel_rfl))
  obtain ⟨e1, e2⟩ := blk1 hz
  rw [e1, e2] at hn
  obtain ⟨rfl, hn⟩ : v = undef ∧ w0.setCell ⟨b, 0, none⟩ (.slice (some ra) n rc) = u26 := hn
  have H26 := Lib.hid (show u26.heap[b]? = some (.cells #[.slice (some ra) n rc] 22 (0, 0)) from by rw [← hn]; exact blk_set hz 0 _)
  clear hn hg0 hg26 e1 e2 hz key
  refine hK _ _ ?_; clear hK K
  refine D.wpGrow_nil ?_
  intro w3 hk3 hω
  have hb3 : w3.heap[b]? = some (.cells #[.slice (some ra) n rc] 22 (0, 0)) := ((show D.KR dV WR 26 u26 w3 from hω 26).1 rfl).blk H26.out id
  have hc3 : w3.heap[c]? = some (.cells #[.int .i64 0] 2 (0, 0)) := (show D.KR dV WR 25 u25 w3 from hω 25).2.blk H25.out.2 rfl
  have ho3 : OwnV 3 w3 (.slice (some ra) n rc) (iv L) := HRO.out.1.kd (show D.KR dV WR 19 u19 w3 from hω 19).2 (fun _ _ => rfl)
  have hbc : b ≠ c := fun h => by rw [h, hc3] at hb3; cases hb3
  obtain ⟨d, d'⟩ := blk1 hc3
  obtain ⟨V, hV⟩ : ∃ V, w3.setCell ⟨c, 0, none⟩ (.int .i64 gone) = V := ⟨_, rfl⟩
  have hkV : Kept (fun i => i = c) w3 V := by rw [← hV]; exact (Kept.refl (fun i => i = c) w3).setCell (p := ⟨c, 0, none⟩) (.inl rfl) _
  have hcV := blk_set hc3 0 (.int .i64 gone)
  rw [hV] at hcV
  have HF := Lib.hid (show V.heap[b]? = some (.cells #[.slice (some ra) n rc] 22 (0, 0)) ∧ V.heap[c]? = some (.cells #[.int .i64 gone] 2 (0, 0)) ∧ OwnV 3 V (.slice (some ra) n rc) (iv L) ∧ Kept (fun _ => False) w V ∧ w.heap.size ≤ b ∧ w.heap.size ≤ c ∧ (L ≠ [] → ∀ g, (Value.slice (some ra) n rc).ownBlock = some g → w.heap.size ≤ g) from
    ⟨hkV.blk hb3 hbc, hcV, ho3.kept hkV (fun g hg h => by obtain ⟨cur, h9⟩ := ho3.clean hg; rw [h, hc3] at h9; cases h9), (HKR.out.then hk3.old).trans (hkV.mono fun i _ (hi : i = c) => Or.inr (by rw [hi]; exact Nat.le_trans HKR.out.size H25.out.1)), Nat.le_trans HKR.out.size H24.out.1, Nat.le_trans HKR.out.size H25.out.1, fun _ g hg => Nat.le_trans HKR.out.size (HRO.out.2 g hg)⟩)
  clear hb3 hc3 ho3 hkV hcV hω hk3
  go_wp2
  go_ret
  exact ⟨_, _, _, rfl, HF.out⟩
theorem nil_ob {n c i : Nat} (h : (Value.slice none n c).ownBlock = some i) : False := by simp [Value.ownBlock] at h
set_option maxRecDepth 100000 in
set_option maxHeartbeats 4000000 in
theorem grow_zero (w : World) : Calls Try.prog 31 #[.slice none 0 0, .int .i64 0] w fun e w' => e = .returned (.slice none 0 0) ∧ w' = w := by
  go_enter Try.func31, Try.ntmps31
  go_wp2
  go_ret
  exact ⟨rfl, rfl⟩
set_option maxRecDepth 100000 in
set_option maxHeartbeats 4000000 in
theorem concat_zero (p : Nat) (a1 a2 : Option Addr) (c1 c2 : Nat) (w : World) (hb : w.heap[p]? = some (.cells #[.slice a1 0 c1, .slice a2 0 c2] 22 (0, 0))) (h1 : a1 = none → c1 = 0) (h2 : a2 = none → c2 = 0) :
    Calls Try.prog 28 #[.slice (some ⟨p, 0, none⟩) 2 2] w fun e w' => ∃ v, e = .returned v ∧ OwnV 3 w' v [] ∧ Kept (fun _ => False) w w' := by
  obtain ⟨i0, hi, hz0, hz1, hz2⟩ := info_parts tinfo3
  have HI := Lib.hid (And.intro hi (And.intro hz0 (And.intro hz1 hz2)))
  obtain ⟨⟨c0, -⟩, c1', -⟩ := blk2 hb
  have HB := Lib.hid hb
  have H1 := Lib.hid h1
  have H2 := Lib.hid h2
  clear hi hz0 hz1 hz2 hb h1 h2
  go_enter Try.func28, Try.ntmps28
  go_wp2
  refine wp_loop_rounds 3 ?_
  rw [rounds_succ]
  go_wp2
  rw [rounds_succ]
  go_wp2
  rw [rounds_succ]
  go_wp2_with fail
  refine (grow_zero _).mono ?_; rintro e w2 ⟨rfl, rfl⟩
  go_wp2
  refine wp_loop_rounds 3 ?_
  rw [rounds_succ]
  go_wp2_with (at_builtin; refine wpList_appV rfl (.tmp 31) (.tmp 32) 22 rfl 3 i0 (.int .i64 0) 8 Try.underlying22 HI.out.1 HI.out.2.1 HI.out.2.2.1 HI.out.2.2.2 rfl (.slice none 0 0) [] rfl (OwnV.nil _ _) a1 0 c1 [] rfl (fun h => ⟨rfl, H1.out h⟩) rfl (fun _ h => by cases h) (fun _ _ _ _ h => by simp at h) (by simp) (by simp [maxLen]) ?_; intro v3 w3 ho3 hk3 hpr3; have hk03 := (hk3.mono (S' := fun _ => False) (fun i _ hi => nil_ob hi)); obtain ⟨a3, cap3, hv3, -⟩ := ho3.shape; rw [List.nil_append] at ho3 hv3; subst hv3; obtain ⟨⟨d0, -⟩, d1', -⟩ := blk2 (hk03.blk HB.out id); have H3 := Lib.hid (And.intro ho3 (And.intro hk03 hpr3)); clear ho3 hk3 hk03 hpr3 c0 c1')
  rw [rounds_succ]
  go_wp2_with (at_builtin; refine wpList_appV rfl (.tmp 31) (.tmp 32) 22 rfl 3 i0 (.int .i64 0) 8 Try.underlying22 HI.out.1 HI.out.2.1 HI.out.2.2.1 HI.out.2.2.2 rfl (.slice a3 0 cap3) [] rfl H3.out.1 a2 0 c2 [] rfl (fun h => ⟨rfl, H2.out h⟩) rfl (fun _ h => by cases h) (fun _ _ _ _ h => by simp at h) (by simp) (by simp [maxLen]) ?_; intro v4 w4 ho4 hk4 hpr4; have hk04 := (H3.out.2.1.trans (hk4.mono (S' := fun i => False ∨ _ ≤ i) fun i _ hi => Or.inr (H3.out.2.2.elim (fun h => by exact (nil_ob (h.symm.trans hi)).elim) (fun h => by have h9 := h.symm.trans hi; have := Option.some.inj h9; omega)))); obtain ⟨a4, cap4, hv4, -⟩ := ho4.shape; rw [List.nil_append] at ho4 hv4; subst hv4; have H4 := Lib.hid (And.intro ho4 hk04); clear ho4 hk4 hk04 hpr4 d0 d1')
  rw [rounds_succ]
  go_wp2
  go_ret
  exact ⟨_, rfl, H4.out⟩
set_option maxRecDepth 100000 in
set_option maxHeartbeats 4000000 in
theorem all_nil (q most gone : Nat)  (o : Option Nat) (w : World) (h : RAt 48 3 w q most 0 gone [] o) (hv : ∃ v, w.heap[q]? = some (.cells #[.int .i64 most, v, .int .i64 ((0 : Nat) : Int), .int .i64 gone] 48 (0, 0)) ∧ v = .slice none 0 0) :
    Calls Try.prog 26 #[.pointer (some ⟨q, 0, none⟩)] w fun e w' => ∃ b c v, e = .returned (.func (.func 29) #[] #[.pointer (some ⟨b, 0, none⟩), .pointer (some ⟨c, 0, none⟩)]) ∧ w'.heap[b]? = some (.cells #[v] 22 (0, 0)) ∧ w'.heap[c]? = some (.cells #[.int .i64 gone] 2 (0, 0)) ∧ OwnV 3 w' v (iv []) ∧ Kept (fun _ => False) w w' ∧ w.heap.size ≤ b ∧ w.heap.size ≤ c ∧ (([] : List Int) ≠ [] → ∀ g, v.ownBlock = some g → w.heap.size ≤ g) := by
  obtain ⟨v, hb, rfl⟩ := hv
  obtain ⟨WR, hWR⟩ : ∃ WR, WR = w.drew := ⟨_, rfl⟩
  have kR : Kept (fun _ => False) w WR := by rw [hWR]; exact (Kept.refl _ w).drew
  obtain ⟨⟨d0, -⟩, ⟨d1, -⟩, ⟨d2, -⟩, d3, -⟩ := blk4 (kR.blk hb id)
  have X0 := cell_regrown d0
  have X1 := cell_regrown d1
  have X2 := cell_regrown d2
  have X3 := cell_regrown d3
  have HKR := Lib.hid kR
  have HWR := Lib.hid hWR
  obtain ⟨RB, hRB⟩ : ∃ R : Value → World → Prop, R = fun v w' => ∃ p a1 c1 a2 c2, v = .slice (some ⟨p, 0, none⟩) 2 2 ∧ w'.heap[p]? = some (.cells #[.slice a1 0 c1, .slice a2 0 c2] 22 (0, 0)) ∧ (a1 = none → c1 = 0) ∧ (a2 = none → c2 = 0) := ⟨_, rfl⟩
  obtain ⟨RC, hRC⟩ : ∃ R : Value → World → Prop, R = fun v w' => (∃ a c, v = .slice a 0 c) ∧ OwnV 3 w' v (iv []) ∧ True := ⟨_, rfl⟩
  obtain ⟨RD, hRD⟩ : ∃ R : Value → World → Prop, R = fun v w' => ∃ b, v = .pointer (some ⟨b, 0, none⟩) ∧ WR.heap.size ≤ b ∧ w'.heap[b]? = some (.cells #[.slice none 0 0] 22 (0, 0)) := ⟨_, rfl⟩
  obtain ⟨RE, hRE⟩ : ∃ R : Value → World → Prop, R = fun v w' => ∃ b, v = .pointer (some ⟨b, 0, none⟩) ∧ WR.heap.size ≤ b ∧ w'.heap[b]? = some (.cells #[.int .i64 0] 2 (0, 0)) := ⟨_, rfl⟩
  have HRB := Lib.hid hRB
  have HRC := Lib.hid hRC
  have HRD := Lib.hid hRD
  have HRE := Lib.hid hRE
  clear hRB hRC hRD hRE hb kR d0 d1 d2 d3 hWR h
  go_enter Try.func26, Try.ntmps26
  go_wp2
  refine D.wp_region_grow (Dt := dV) #[0, 1, 3, 7, 0, 16, 48, 112, 255, 0, 512, 1536, 3584, 0, 8192, 24576, 57344, 130560, 262143, 524287, 0, 1048576, 3145728, 7340032, 0, 0, 51380223, 134217727] 27 [] (fun i => if i = 18 then some RB else if i = 19 then some RC else if i = 24 then some RD else if i = 25 then some RE else if i = 26 then some (fun _ _ => True) else none) (by kernel_rfl) rfl (by kernel_rfl) (fun i hi => by cases hi) (fun _ _ _ _ _ h => h) ?_
  rintro _ rfl
  rw [← HWR.out]
  simp only [List.take_succ_cons, List.take_zero, List.drop_succ_cons, List.drop_zero, D.number, Nat.reduceAdd]
  repeat (refine D.wpGrow_step (fun K hK => ?_); go_simp; refine hK _ _ ?_; clear hK K)
  refine D.wpGrow_step (fun K hK => ?_)
  go_simp
  refine ⟨fun w' hg => ⟨D.KU.of ((Kept.refl _ _).alloc _), by rw [HRB.out]; exact ⟨_, _, _, _, _, rfl, blk_new _ _, (fun h => by first | rfl | cases h), fun h => by first | rfl | cases h⟩⟩, fun v u18 hv => ?_⟩
  intros
  rw [HRB.out] at hv
  obtain ⟨p, a1, c1, a2, c2, rfl, hp, hp1, hp2⟩ := hv
  have HP := Lib.hid (And.intro hp (And.intro hp1 hp2))
  clear hp hp1 hp2
  refine hK _ _ ?_; clear hK K
  refine D.wpGrow_step (fun K hK => ?_)
  go_simp
  refine ⟨fun w' hg => (concat_zero p a1 a2 c1 c2 w' ((hg.seen 18 (by kernel_rfl)).2.blk HP.out.1 (by rfl)) HP.out.2.1 HP.out.2.2).mono (fun e w'' ⟨v, he, ho, hk⟩ => ⟨v, he, D.KU.of hk, by
    rw [HRC.out]
    obtain ⟨a, c, hv, -⟩ := ho.shape
    exact ⟨⟨a, c, hv⟩, ho, trivial⟩⟩), fun v u19 hv => ?_⟩
  intros
  rw [HRC.out] at hv
  obtain ⟨⟨ra, rc, rfl⟩, hro⟩ := hv
  have HRO := Lib.hid hro
  clear hro
  refine hK _ _ ?_; clear hK K
  repeat (refine D.wpGrow_step (fun K hK => ?_); go_simp; refine hK _ _ ?_; clear hK K)
  refine D.wpGrow_step (fun K hK => ?_)
  go_simp
  refine ⟨fun w' hg => ⟨D.KU.of ((Kept.refl _ _).alloc _), by rw [HRD.out]; exact ⟨_, rfl, hg.old.size, blk_new _ _⟩⟩, fun v u24 hv => ?_⟩
  intros
  rw [HRD.out] at hv
  obtain ⟨b, rfl, hbW, hb24⟩ := hv
  have H24 := Lib.hid (And.intro hbW hb24)
  clear hbW hb24
  refine hK _ _ ?_; clear hK K
  refine D.wpGrow_step (fun K hK => ?_)
  go_simp
  refine ⟨fun w' hg => ⟨D.KU.of ((Kept.refl _ _).alloc _), by rw [HRE.out]; exact ⟨_, rfl, hg.old.size, blk_new _ _⟩⟩, fun v u25 hv => ?_⟩
  intros
  rw [HRE.out] at hv
  obtain ⟨c, rfl, hcW, hc25⟩ := hv
  have H25 := Lib.hid (And.intro hcW hc25)
  clear hcW hc25
  refine hK _ _ ?_; clear hK K
  refine D.wpGrow_step (fun K hK => ?_)
  go_simp
  have key : ∀ x, D.KR dV WR 24 u24 x → ∃ z, x.heap[b]? = some (.cells #[z] 22 (0, 0)) := fun x hx => by
    obtain ⟨c', h1, h2⟩ := hx.2.kind H24.out.2
    exact one_of h1 h2
  refine ⟨fun w' hg => ?_, fun v u26 hg26 w0 hg0 hn => ?_⟩
  · obtain ⟨z, hz⟩ := key w' (show D.KR dV WR 24 u24 w' from hg.seen 24 (by kernel_rfl))
    obtain ⟨e1, e2⟩ := blk1 hz
    rw [e1, e2]
    exact D.KU.kd (D.KD.set hz rfl H24.out.1 0 _) rfl
  obtain ⟨z, hz⟩ := key w0 (show D.KR dV WR 24 u24 w0 from hg0.seen 24 (by kernel_rfl))
  obtain ⟨e1, e2⟩ := blk1 hz
  rw [e1, e2] at hn
  obtain ⟨rfl, hn⟩ : v = undef ∧ w0.setCell ⟨b, 0, none⟩ (.slice ra 0 rc) = u26 := hn
  have H26 := Lib.hid (show u26.heap[b]? = some (.cells #[.slice ra 0 rc] 22 (0, 0)) from by rw [← hn]; exact blk_set hz 0 _)
  clear hn hg0 hg26 e1 e2 hz key
  refine hK _ _ ?_; clear hK K
  refine D.wpGrow_nil ?_
  intro w3 hk3 hω
  have hb3 : w3.heap[b]? = some (.cells #[.slice ra 0 rc] 22 (0, 0)) := ((show D.KR dV WR 26 u26 w3 from hω 26).1 rfl).blk H26.out id
  have hc3 : w3.heap[c]? = some (.cells #[.int .i64 0] 2 (0, 0)) := (show D.KR dV WR 25 u25 w3 from hω 25).2.blk H25.out.2 rfl
  have ho3 : OwnV 3 w3 (.slice ra 0 rc) (iv []) := HRO.out.1.kd (show D.KR dV WR 19 u19 w3 from hω 19).2 (fun _ _ => rfl)
  have hbc : b ≠ c := fun h => by rw [h, hc3] at hb3; cases hb3
  obtain ⟨d, d'⟩ := blk1 hc3
  obtain ⟨V, hV⟩ : ∃ V, w3.setCell ⟨c, 0, none⟩ (.int .i64 gone) = V := ⟨_, rfl⟩
  have hkV : Kept (fun i => i = c) w3 V := by rw [← hV]; exact (Kept.refl (fun i => i = c) w3).setCell (p := ⟨c, 0, none⟩) (.inl rfl) _
  have hcV := blk_set hc3 0 (.int .i64 gone)
  rw [hV] at hcV
  have HF := Lib.hid (show V.heap[b]? = some (.cells #[.slice ra 0 rc] 22 (0, 0)) ∧ V.heap[c]? = some (.cells #[.int .i64 gone] 2 (0, 0)) ∧ OwnV 3 V (.slice ra 0 rc) (iv []) ∧ Kept (fun _ => False) w V ∧ w.heap.size ≤ b ∧ w.heap.size ≤ c ∧ (([] : List Int) ≠ [] → ∀ g, (Value.slice ra 0 rc).ownBlock = some g → w.heap.size ≤ g) from
    ⟨hkV.blk hb3 hbc, hcV, ho3.kept hkV (fun g hg h => by obtain ⟨cur, h9⟩ := ho3.clean hg; rw [h, hc3] at h9; cases h9), (HKR.out.then hk3.old).trans (hkV.mono fun i _ (hi : i = c) => Or.inr (by rw [hi]; exact Nat.le_trans HKR.out.size H25.out.1)), Nat.le_trans HKR.out.size H24.out.1, Nat.le_trans HKR.out.size H25.out.1, fun h => absurd rfl h⟩)
  clear hb3 hc3 ho3 hkV hcV hω hk3
  go_wp2
  go_ret
  exact ⟨_, _, _, rfl, HF.out⟩
set_option maxRecDepth 100000 in
set_option maxHeartbeats 4000000 in
theorem all_zero (q most gone : Nat) (g cap : Nat) (o : Option Nat) (w : World) (h : RAt 48 3 w q most 0 gone [] o) (hv : ∃ v, w.heap[q]? = some (.cells #[.int .i64 most, v, .int .i64 ((0 : Nat) : Int), .int .i64 gone] 48 (0, 0)) ∧ v = .slice (some ⟨g, 0, none⟩) 0 cap) :
    Calls Try.prog 26 #[.pointer (some ⟨q, 0, none⟩)] w fun e w' => ∃ b c v, e = .returned (.func (.func 29) #[] #[.pointer (some ⟨b, 0, none⟩), .pointer (some ⟨c, 0, none⟩)]) ∧ w'.heap[b]? = some (.cells #[v] 22 (0, 0)) ∧ w'.heap[c]? = some (.cells #[.int .i64 gone] 2 (0, 0)) ∧ OwnV 3 w' v (iv []) ∧ Kept (fun _ => False) w w' ∧ w.heap.size ≤ b ∧ w.heap.size ≤ c ∧ (([] : List Int) ≠ [] → ∀ g, v.ownBlock = some g → w.heap.size ≤ g) := by
  obtain ⟨v, hb, rfl⟩ := hv
  obtain ⟨WR, hWR⟩ : ∃ WR, WR = w.drew := ⟨_, rfl⟩
  have kR : Kept (fun _ => False) w WR := by rw [hWR]; exact (Kept.refl _ w).drew
  obtain ⟨⟨d0, -⟩, ⟨d1, -⟩, ⟨d2, -⟩, d3, -⟩ := blk4 (kR.blk hb id)
  have X0 := cell_regrown d0
  have X1 := cell_regrown d1
  have X2 := cell_regrown d2
  have X3 := cell_regrown d3
  have HKR := Lib.hid kR
  have HWR := Lib.hid hWR
  obtain ⟨RB, hRB⟩ : ∃ R : Value → World → Prop, R = fun v w' => ∃ p a1 c1 a2 c2, v = .slice (some ⟨p, 0, none⟩) 2 2 ∧ w'.heap[p]? = some (.cells #[.slice a1 0 c1, .slice a2 0 c2] 22 (0, 0)) ∧ (a1 = none → c1 = 0) ∧ (a2 = none → c2 = 0) := ⟨_, rfl⟩
  obtain ⟨RC, hRC⟩ : ∃ R : Value → World → Prop, R = fun v w' => (∃ a c, v = .slice a 0 c) ∧ OwnV 3 w' v (iv []) ∧ True := ⟨_, rfl⟩
  obtain ⟨RD, hRD⟩ : ∃ R : Value → World → Prop, R = fun v w' => ∃ b, v = .pointer (some ⟨b, 0, none⟩) ∧ WR.heap.size ≤ b ∧ w'.heap[b]? = some (.cells #[.slice none 0 0] 22 (0, 0)) := ⟨_, rfl⟩
  obtain ⟨RE, hRE⟩ : ∃ R : Value → World → Prop, R = fun v w' => ∃ b, v = .pointer (some ⟨b, 0, none⟩) ∧ WR.heap.size ≤ b ∧ w'.heap[b]? = some (.cells #[.int .i64 0] 2 (0, 0)) := ⟨_, rfl⟩
  have HRB := Lib.hid hRB
  have HRC := Lib.hid hRC
  have HRD := Lib.hid hRD
  have HRE := Lib.hid hRE
  clear hRB hRC hRD hRE hb kR d0 d1 d2 d3 hWR h
  go_enter Try.func26, Try.ntmps26
  go_wp2
  refine D.wp_region_grow (Dt := dV) #[0, 1, 3, 7, 0, 16, 48, 112, 255, 0, 512, 1536, 3584, 0, 8192, 24576, 57344, 130560, 262143, 524287, 0, 1048576, 3145728, 7340032, 0, 0, 51380223, 134217727] 27 [] (fun i => if i = 18 then some RB else if i = 19 then some RC else if i = 24 then some RD else if i = 25 then some RE else if i = 26 then some (fun _ _ => True) else none) (by kernel_rfl) rfl (by kernel_rfl) (fun i hi => by cases hi) (fun _ _ _ _ _ h => h) ?_
  rintro _ rfl
  rw [← HWR.out]
  simp only [List.take_succ_cons, List.take_zero, List.drop_succ_cons, List.drop_zero, D.number, Nat.reduceAdd]
  repeat (refine D.wpGrow_step (fun K hK => ?_); go_simp; refine hK _ _ ?_; clear hK K)
  refine D.wpGrow_step (fun K hK => ?_)
  go_simp
  refine ⟨fun w' hg => ⟨D.KU.of ((Kept.refl _ _).alloc _), by rw [HRB.out]; exact ⟨_, _, _, _, _, rfl, blk_new _ _, (fun h => by first | rfl | cases h), fun h => by first | rfl | cases h⟩⟩, fun v u18 hv => ?_⟩
  intros
  rw [HRB.out] at hv
  obtain ⟨p, a1, c1, a2, c2, rfl, hp, hp1, hp2⟩ := hv
  have HP := Lib.hid (And.intro hp (And.intro hp1 hp2))
  clear hp hp1 hp2
  refine hK _ _ ?_; clear hK K
  refine D.wpGrow_step (fun K hK => ?_)
  go_simp
  refine ⟨fun w' hg => (concat_zero p a1 a2 c1 c2 w' ((hg.seen 18 (by kernel_rfl)).2.blk HP.out.1 (by rfl)) HP.out.2.1 HP.out.2.2).mono (fun e w'' ⟨v, he, ho, hk⟩ => ⟨v, he, D.KU.of hk, by
    rw [HRC.out]
    obtain ⟨a, c, hv, -⟩ := ho.shape
    exact ⟨⟨a, c, hv⟩, ho, trivial⟩⟩), fun v u19 hv => ?_⟩
  intros
  rw [HRC.out] at hv
  obtain ⟨⟨ra, rc, rfl⟩, hro⟩ := hv
  have HRO := Lib.hid hro
  clear hro
  refine hK _ _ ?_; clear hK K
  repeat (refine D.wpGrow_step (fun K hK => ?_); go_simp; refine hK _ _ ?_; clear hK K)
  refine D.wpGrow_step (fun K hK => ?_)
  go_simp
  refine ⟨fun w' hg => ⟨D.KU.of ((Kept.refl _ _).alloc _), by rw [HRD.out]; exact ⟨_, rfl, hg.old.size, blk_new _ _⟩⟩, fun v u24 hv => ?_⟩
  intros
  rw [HRD.out] at hv
  obtain ⟨b, rfl, hbW, hb24⟩ := hv
  have H24 := Lib.hid (And.intro hbW hb24)
  clear hbW hb24
  refine hK _ _ ?_; clear hK K
  refine D.wpGrow_step (fun K hK => ?_)
  go_simp
  refine ⟨fun w' hg => ⟨D.KU.of ((Kept.refl _ _).alloc _), by rw [HRE.out]; exact ⟨_, rfl, hg.old.size, blk_new _ _⟩⟩, fun v u25 hv => ?_⟩
  intros
  rw [HRE.out] at hv
  obtain ⟨c, rfl, hcW, hc25⟩ := hv
  have H25 := Lib.hid (And.intro hcW hc25)
  clear hcW hc25
  refine hK _ _ ?_; clear hK K
  refine D.wpGrow_step (fun K hK => ?_)
  go_simp
  have key : ∀ x, D.KR dV WR 24 u24 x → ∃ z, x.heap[b]? = some (.cells #[z] 22 (0, 0)) := fun x hx => by
    obtain ⟨c', h1, h2⟩ := hx.2.kind H24.out.2
    exact one_of h1 h2
  refine ⟨fun w' hg => ?_, fun v u26 hg26 w0 hg0 hn => ?_⟩
  · obtain ⟨z, hz⟩ := key w' (show D.KR dV WR 24 u24 w' from hg.seen 24 (by kernel_rfl))
    obtain ⟨e1, e2⟩ := blk1 hz
    rw [e1, e2]
    exact D.KU.kd (D.KD.set hz rfl H24.out.1 0 _) rfl
  obtain ⟨z, hz⟩ := key w0 (show D.KR dV WR 24 u24 w0 from hg0.seen 24 (by kernel_rfl))
  obtain ⟨e1, e2⟩ := blk1 hz
  rw [e1, e2] at hn
  obtain ⟨rfl, hn⟩ : v = undef ∧ w0.setCell ⟨b, 0, none⟩ (.slice ra 0 rc) = u26 := hn
  have H26 := Lib.hid (show u26.heap[b]? = some (.cells #[.slice ra 0 rc] 22 (0, 0)) from by rw [← hn]; exact blk_set hz 0 _)
  clear hn hg0 hg26 e1 e2 hz key
  refine hK _ _ ?_; clear hK K
  refine D.wpGrow_nil ?_
  intro w3 hk3 hω
  have hb3 : w3.heap[b]? = some (.cells #[.slice ra 0 rc] 22 (0, 0)) := ((show D.KR dV WR 26 u26 w3 from hω 26).1 rfl).blk H26.out id
  have hc3 : w3.heap[c]? = some (.cells #[.int .i64 0] 2 (0, 0)) := (show D.KR dV WR 25 u25 w3 from hω 25).2.blk H25.out.2 rfl
  have ho3 : OwnV 3 w3 (.slice ra 0 rc) (iv []) := HRO.out.1.kd (show D.KR dV WR 19 u19 w3 from hω 19).2 (fun _ _ => rfl)
  have hbc : b ≠ c := fun h => by rw [h, hc3] at hb3; cases hb3
  obtain ⟨d, d'⟩ := blk1 hc3
  obtain ⟨V, hV⟩ : ∃ V, w3.setCell ⟨c, 0, none⟩ (.int .i64 gone) = V := ⟨_, rfl⟩
  have hkV : Kept (fun i => i = c) w3 V := by rw [← hV]; exact (Kept.refl (fun i => i = c) w3).setCell (p := ⟨c, 0, none⟩) (.inl rfl) _
  have hcV := blk_set hc3 0 (.int .i64 gone)
  rw [hV] at hcV
  have HF := Lib.hid (show V.heap[b]? = some (.cells #[.slice ra 0 rc] 22 (0, 0)) ∧ V.heap[c]? = some (.cells #[.int .i64 gone] 2 (0, 0)) ∧ OwnV 3 V (.slice ra 0 rc) (iv []) ∧ Kept (fun _ => False) w V ∧ w.heap.size ≤ b ∧ w.heap.size ≤ c ∧ (([] : List Int) ≠ [] → ∀ g, (Value.slice ra 0 rc).ownBlock = some g → w.heap.size ≤ g) from
    ⟨hkV.blk hb3 hbc, hcV, ho3.kept hkV (fun g hg h => by obtain ⟨cur, h9⟩ := ho3.clean hg; rw [h, hc3] at h9; cases h9), (HKR.out.then hk3.old).trans (hkV.mono fun i _ (hi : i = c) => Or.inr (by rw [hi]; exact Nat.le_trans HKR.out.size H25.out.1)), Nat.le_trans HKR.out.size H24.out.1, Nat.le_trans HKR.out.size H25.out.1, fun h => absurd rfl h⟩)
  clear hb3 hc3 ho3 hkV hcV hω hk3
  go_wp2
  go_ret
  exact ⟨_, _, _, rfl, HF.out⟩
/-- All. -/
theorem rall (q most gone : Nat) (L : List Int) (o : Option Nat) (w : World) (h : Rg w q most gone L o) (hm : most ≤ 65536) :
    Calls Try.prog 26 #[.pointer (some ⟨q, 0, none⟩)] w fun e w' => ∃ b c v, e = .returned (.func (.func 29) #[] #[.pointer (some ⟨b, 0, none⟩), .pointer (some ⟨c, 0, none⟩)]) ∧ w'.heap[b]? = some (.cells #[v] 22 (0, 0)) ∧ w'.heap[c]? = some (.cells #[.int .i64 gone] 2 (0, 0)) ∧ OwnV 3 w' v (iv L) ∧ Kept (fun _ => False) w w' ∧ w.heap.size ≤ b ∧ w.heap.size ≤ c ∧ (L ≠ [] → ∀ g, v.ownBlock = some g → w.heap.size ≤ g) := by
  obtain ⟨at', xs, h1, h2, h3, h4, h5⟩ := h
  by_cases h0 : xs = []
  · subst h0
    have hL : L = [] := List.eq_nil_of_length_eq_zero (by have := congrArg List.length h2; simp at this; omega)
    subst hL
    obtain rfl : at' = 0 := by rcases h3 with h | h; exact h; simp at h
    obtain ⟨v, hb, ho, hvo, hoq⟩ := id h1
    obtain ⟨a, cap, hv, -, -, hn, -, -⟩ := ho.shape
    rcases a with _ | x
    · have hc := (hn rfl).2
      subst hc
      exact all_nil q most gone o w h1 ⟨v, hb, hv⟩
    · obtain ⟨g, hg⟩ : ∃ g, x = ⟨g, 0, none⟩ := by
        obtain ⟨h6, h7⟩ := ho
        rcases h7 with ⟨h8, -⟩ | ⟨g, cap', cur, h8, -⟩
        · rw [hv] at h8; cases h8
        · rw [hv] at h8; cases h8; exact ⟨g, rfl⟩
      subst hg
      exact all_zero q most gone g cap o w h1 ⟨v, hb, hv⟩
  · have hp : 0 < xs.length := List.length_pos_iff.2 h0
    exact all_some q most at' gone xs L o w h1 (by rcases h3 with h | h <;> omega) (by omega) h2
end Go.Proofs.Ytdfenlonlpjkfaa
