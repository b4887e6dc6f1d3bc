/- A table made: New. -/
import Derived.Test.YtndneidjnlammaaTabD
namespace Go.Proofs.Ytndneidjnlammaa
open Go.RowKit Pl
set_option linter.unusedVariables false
set_option linter.unusedSimpArgs false
attribute [local go_sem] growOp growUpon sameUpon
/-- Bytes appended to a literal of none: a row of its own. -/
theorem app_empty {P : Program} {w : World} (t ty e : TypeId) (i : TypeInfo) (ht : P.underlying t = some (.slice e)) (hi : P.info? e = some i) (hz : i.zero = some (.int .u8 0)) (hsize : i.size = 1) (hby : i.bytes = 1) (q : Nat)
    (a0 : Option Addr) (len cap : Nat) (xs : List Int) (hs : SlAt .u8 w a0 len xs) (hnil : a0 = none → len = 0 ∧ cap = 0) (hl : len ≤ 1000000) :
    ∃ la lc w', (Builtin.append_ #[t, t] ty #[.slice (some ⟨q, 0, none⟩) 0 0, .slice a0 len cap]).run P w = .ok (.slice la len lc) w' ∧ SlAt .u8 w' la len xs ∧ Kept (fun _ => False) w w' ∧ (∀ b off, 0 < len → la = some ⟨b, off, none⟩ → w.heap.size ≤ b ∧ ∃ cur, w'.heap[b]? = some (.cells cur e (0, 0))) ∧ len ≤ lc ∧ (la = none → len = 0 ∧ lc = 0) := by
  have hxl := hs.1
  rcases Nat.eq_zero_or_pos len with h0 | h0
  · subst h0
    have hx : xs = [] := List.eq_nil_of_length_eq_zero hxl
    subst hx
    refine ⟨some ⟨q, 0, none⟩, 0, w, ?_, ⟨rfl, .inl rfl⟩, Kept.refl _ _, (fun _ _ h => by omega), Nat.le_refl _, (fun h => by cases h)⟩
    cases a0 with
    | none =>
      obtain ⟨-, rfl⟩ := hnil rfl
      simp [Builtin.append_, run_underlying ht, sizeOf, typeInfo, hi, Builtin.lenOf, Builtin.firstCells, storeCells, go_sem]
    | some y => simp [Builtin.append_, run_underlying ht, sizeOf, typeInfo, hi, Builtin.lenOf, Builtin.firstCells, loadCells, loadCellsFrom, storeCells, go_sem]
  · obtain ⟨b, off, rfl, hc⟩ := hs.2.resolve_left (by omega)
    have hr := run_append_grow (P := P) w t ty e i (.int .u8 0) ht hi hz ⟨q, 0, none⟩ 0 0 [] (by simp) (by intro j v hj; simp at hj) ⟨b, off, none⟩ len cap (xs.map (Value.int .u8)) (by rw [List.length_map, hsize, Nat.mul_one]; exact hxl)
      (fun j v hj => by
        have hj' : j < xs.length := by have := (List.getElem?_eq_some_iff.1 hj).1; rwa [List.length_map] at this
        have hadd : (⟨b, off, none⟩ : Addr).add j = ⟨b, off + j, none⟩ := by unfold Addr.add; split <;> simp_all
        rw [hadd, hc j (by omega)]
        rw [List.getElem?_map, List.getElem?_eq_getElem hj'] at hj
        simp at hj
        simp [hj', hj])
      (by omega) (by omega) (growslice_fits (by omega) (by rw [hby]; omega))
    simp only [Nat.zero_add] at hr
    have hge := grownCap_ge w len 0 e
    refine ⟨_, _, _, hr, ⟨hxl, .inr ⟨w.heap.size, 0, rfl, fun j hj => ?_⟩⟩, ?_, fun b' off' _ h => by cases h; exact ⟨Nat.le_refl _, _, blk_new w.drew _⟩, hge, fun h => by cases h⟩
    · have h9 := blk_new w.drew (.cells ((([] : List Value).toArray) ++ (xs.map (Value.int .u8)).toArray ++ Builtin.zeroCells (Value.int IntKind.u8 0).cells (grownCap w len 0 e - len)) e)
      rw [show w.drew.heap.size = w.heap.size from rfl] at h9
      rw [Nat.zero_add, blk_cell h9]
      have hj' : j < xs.length := by omega
      simp [Array.getElem?_append_left, hj']
    · exact ((Kept.refl (fun _ => False) w).drew).alloc _
theorem growOp_told {P : Program} {ops : Array Oper} {X : Nat → Nat → Bool} {W : World} {S : Nat → Option (Value → World → Prop)} {i : Nat} {o : Oper} {K : Act → (Nat → World) → Prop} {a : Act} {ω : Nat → World} {R : Value → World → Prop} (hg : o.guard = none) (hS : S i = some R)
    (h1 : ∀ w, GrowAt X W ω i w → growUpon P R w ((execOp a.eval o).run P w)) (h2 : ∀ v w', R v w' → GrowAt X W ω i w' → K (a.put o.dst v) (moment ω i w')) : growOp P ops X W S i o K a ω := by
  unfold growOp
  have hw : Region.wanted o (yielded ops a.tmps) = true := by simp [Region.wanted, hg]
  rw [if_pos hw, hS]
  exact ⟨h1, h2⟩
theorem upon_append {P : Program} {R : Value → World → Prop} {w : World} {o : Oper} {a : Act} (s x : Operand) (t : TypeId) (ho : o.op = .call { callee := .builtin .append, args := #[s, x], argTypes := #[t, t] }) {v1 v2 v' : Value} {w' : World} (h1 : a.eval s = v1) (h2 : a.eval x = v2)
    (hr : (Builtin.append_ #[t, t] o.type #[v1, v2]).run P w = .ok v' w') (hk : Kept (fun _ => False) w w') (hR : R v' w') : growUpon P R w ((execOp a.eval o).run P w) := by
  unfold execOp
  simp only [ho, resolve, invoke, builtin, Sem.run_bind, Sem.run_pure, Result.andThen_ok, List.map_toArray, List.map_cons, List.map_nil, h1, h2, hr]
  exact ⟨hk, hR⟩
theorem upon_make {P : Program} {R : Value → World → Prop} {w : World} {o : Oper} {a : Act} (l c : Operand) (t : TypeId) (ho : o.op = Op.makeSlice t l c) {v1 v2 v' : Value} {w' : World} (h1 : a.eval l = v1) (h2 : a.eval c = v2)
    (hr : (Instr.makeSlice t v1 v2).run P w = .ok v' w') (hk : Kept (fun _ => False) w w') (hR : R v' w') : growUpon P R w ((execOp a.eval o).run P w) := by
  unfold execOp
  simp only [ho, Sem.run_bind, Sem.run_pure, Result.andThen_ok, h1, h2, hr]
  exact ⟨hk, hR⟩
/-- What New tells. -/
def newE (ls : List Nat) : Int := if ls.any (fun c => decide (15 < c)) = true then 1 else if okTab ls = true then 0 else 3
def cntI (ls : List Nat) : List Int := (List.range 16).map (fun k => (cnt ls k : Int))
def mx (ls : List Nat) : Nat := ls.foldl max 0
theorem mx_snoc (l : List Nat) (c : Nat) : mx (l ++ [c]) = max (mx l) c := by simp [mx]
theorem cntI_len (ls : List Nat) : (cntI ls).length = 16 := by simp [cntI]
theorem cntI_at (ls : List Nat) (k : Nat) (hk : k < 16) : (cntI ls).getD k 0 = (cnt ls k : Int) := by simp [cntI, hk]
theorem cnt_snoc (l : List Nat) (c k : Nat) : cnt (l ++ [c]) k = cnt l k + if 0 < k ∧ c = k then 1 else 0 := by
  unfold cnt
  by_cases h0 : k = 0
  · rw [if_pos h0, if_pos h0, if_neg (by omega)]
  · rw [if_neg h0, if_neg h0, List.count_append]
    by_cases h1 : c = k
    · subst h1; rw [if_pos ⟨by omega, rfl⟩]; simp
    · rw [if_neg (fun h => h1 h.2)]; simp [List.count_cons, h1]
theorem cntI_snoc (l : List Nat) (c : Nat) (hc : 0 < c ∧ c < 16) : (cntI l).set c ((cnt l c : Int) + 1) = cntI (l ++ [c]) := by
  apply List.ext_getElem?
  intro k
  by_cases hk : k < 16
  · rw [List.getElem?_set]
    have e : ∀ l : List Nat, (cntI l)[k]? = some (cnt l k : Int) := fun l => by simp [cntI, hk]
    rw [e, e, cnt_snoc]
    by_cases h1 : c = k
    · subst h1
      rw [if_pos rfl, if_pos (by rw [cntI_len]; exact hk), if_pos ⟨hc.1, rfl⟩]; simp
    · rw [if_neg h1, if_neg (fun h => h1 h.2)]; simp
  · rw [List.getElem?_eq_none (by rw [List.length_set, cntI_len]; omega), List.getElem?_eq_none (by rw [cntI_len]; omega)]
theorem cntI_zero (l : List Nat) (c : Nat) (hc : c = 0) : cntI (l ++ [c]) = cntI l := by
  unfold cntI
  apply List.map_congr_left
  intro k _
  rw [cnt_snoc, if_neg (by omega), Nat.add_zero]
theorem tinfoU32 : (Try.prog.info? 28).map (fun i => (i.zero, i.size, i.bytes)) = some (some (.int .u32 0), 1, 4) := by kernel_rfl
/-- What New leaves. -/
def NewPost (W : World) (ls : List Nat) (e : Ending) (w' : World) : Prop :=
  (newE ls ≠ 0 ∧ e = .returned (.tuple #[.pointer none, .int .i64 (newE ls)]) ∧ Kept (fun _ => False) W w') ∨
  (newE ls = 0 ∧ ∃ a sv cv la lc, e = .returned (.tuple #[.pointer (some ⟨a, 0, none⟩), .int .i64 0]) ∧ TOwn w' a (cntI ls) (srt ls 15) (codesR ls) ls (mx ls) sv cv la lc ∧ Kept (fun _ => False) W w' ∧ W.heap.size ≤ a ∧ (∀ b, sv.ownBlock = some b → W.heap.size ≤ b) ∧ (∀ b, cv.ownBlock = some b → W.heap.size ≤ b) ∧ ∀ b off, 0 < ls.length → la = some ⟨b, off, none⟩ → W.heap.size ≤ b)
theorem any_of {ls : List Nat} {c : Nat} (h : c ∈ ls) (hc : 15 < c) : newE ls = 1 := by
  unfold newE
  rw [if_pos (List.any_eq_true.2 ⟨c, h, decide_eq_true hc⟩)]
theorem any_no {ls : List Nat} (h : ∀ c ∈ ls, c ≤ 15) : newE ls = if okTab ls = true then 0 else 3 := by
  unfold newE
  rw [if_neg]
  intro h2
  obtain ⟨c, h3, h4⟩ := List.any_eq_true.1 h2
  have := of_decide_eq_true h4
  have := h c h3
  omega
theorem take_snoc' {l : List Nat} {k c : Nat} (h : l[k]? = some c) : l.take (k + 1) = l.take k ++ [c] := by
  rw [List.take_add_one, h]; rfl
theorem mx_le {l : List Nat} {B : Nat} (h : ∀ c ∈ l, c ≤ B) : mx l ≤ B := by
  have key : ∀ (l : List Nat) (m : Nat), m ≤ B → (∀ c ∈ l, c ≤ B) → l.foldl max m ≤ B := by
    intro l
    induction l with
    | nil => intro m hm _; exact hm
    | cons a l ih => intro m hm h; exact ih _ (Nat.max_le.2 ⟨hm, h a (by simp)⟩) (fun c hc => h c (by simp [hc]))
  exact key l 0 (Nat.zero_le _) h
set_option maxRecDepth 100000 in
set_option maxHeartbeats 16000000 in
theorem new_any (a0 : Option Addr) (len cap : Nat) (ls : List Nat) (W : World) (hs : SlAt .u8 W a0 len (ints ls)) (hb : ∀ c ∈ ls, c < 256) (hl : len ≤ 320) (hnil : a0 = none → len = 0 ∧ cap = 0) :
    Calls Try.prog 8 #[.slice a0 len cap] W fun e w' => NewPost W ls e w' := by
  have hll : ls.length = len := by rw [← hs.1, ints_length]
  have H := Lib.hid (And.intro hs (And.intro hb (And.intro hll hnil)))
  have g0 : decide ((320 : Int) < (len : Int)) = false := decide_eq_false (by omega)
  have g0' : decide (320 < len) = false := decide_eq_false (by omega)
  obtain ⟨i0, hi0, hz0, hz1, hz2⟩ := info_parts Try.infoByte
  have HI := Lib.hid (And.intro hi0 (And.intro hz0 (And.intro hz1 hz2)))
  obtain ⟨i1, hj0, hj1, hj2, hj3⟩ := info_parts tinfoU32
  have HJ := Lib.hid (And.intro hj0 (And.intro hj1 (And.intro hj2 hj3)))
  obtain ⟨WR, hWR⟩ : ∃ WR, WR = W.drew := ⟨_, rfl⟩
  have hkR : Kept (fun _ => False) W WR := by rw [hWR]; exact (Kept.refl _ _).drew
  obtain ⟨RA, hRA⟩ : ∃ R : Value → World → Prop, R = fun v w' => ∃ q, v = .slice (some ⟨q, 0, none⟩) 0 0 := ⟨_, rfl⟩
  obtain ⟨RB, hRB⟩ : ∃ R : Value → World → Prop, R = fun v w' => ∃ la lc, v = .slice la len lc ∧ SlAt .u8 w' la len (ints ls) ∧ (∀ b off, 0 < len → la = some ⟨b, off, none⟩ → W.heap.size ≤ b ∧ ∃ cur, w'.heap[b]? = some (.cells cur 5 (0, 0))) ∧ (la = none → len = 0 ∧ lc = 0) := ⟨_, rfl⟩
  obtain ⟨RM, hRM⟩ : ∃ R : Value → World → Prop, R = fun v w' => ∃ m, v = .slice (some ⟨m, 0, none⟩) len len ∧ Own .u32 28 w' (.slice (some ⟨m, 0, none⟩) len len) (List.replicate len 0) ∧ W.heap.size ≤ m := ⟨_, rfl⟩
  obtain ⟨RT, hRT⟩ : ∃ R : Value → World → Prop, R = fun v w' => ∃ a m la lc, v = .pointer (some ⟨a, 0, none⟩) ∧ TOwn w' a (cntI []) [] (List.replicate ls.length 0) ls 0 (.slice none 0 0) (.slice (some ⟨m, 0, none⟩) len len) la lc ∧ W.heap.size ≤ a ∧ W.heap.size ≤ m ∧ ∀ b off, 0 < len → la = some ⟨b, off, none⟩ → W.heap.size ≤ b := ⟨_, rfl⟩
  have HRA := Lib.hid hRA
  have HRT := Lib.hid hRT
  have HRB := Lib.hid hRB
  have HRM := Lib.hid hRM
  have HWR := Lib.hid hWR
  have HKR := Lib.hid hkR
  clear hs hb hll hnil hi0 hz0 hz1 hz2 hj0 hj1 hj2 hj3 hWR hkR hRA hRB hRM hRT
  go_enter Try.func8, Try.ntmps8
  go_wp2
  refine wp_region_grow #[0, 0, 3, 0, 8, 24, 63, 127, 255] 9 [] (fun i => if i = 0 then some RA else if i = 2 then some RB else if i = 5 then some RM else if i = 7 then some RT else none) (by kernel_rfl) rfl (by kernel_rfl) (fun i hi => by cases hi) (fun _ _ _ _ _ h => h) ?_
  rintro _ rfl
  rw [← HWR.out]
  simp only [List.take_succ_cons, List.take_zero, List.drop_succ_cons, List.drop_zero, number, Nat.reduceAdd]
  refine wpGrow_step (fun K hK => ?_)
  go_simp
  refine ⟨fun w' hg => ⟨(Kept.refl _ _).alloc _, by rw [HRA.out]; exact ⟨_, rfl⟩⟩, fun v wv hv _ => ?_⟩
  rw [HRA.out] at hv
  obtain ⟨q, rfl⟩ := hv
  refine hK _ _ ?_; clear hK K
  refine wpGrow_step (fun K hK => ?_); go_simp; refine hK _ _ ?_; clear hK K
  refine wpGrow_step (fun K hK => ?_)
  refine growOp_told rfl rfl (fun w' hg => ?_) (fun v wv2 hv _ => ?_)
  · obtain ⟨la, lc, w3, hr, h1, h2, h3, -, h4⟩ := app_empty (P := Try.prog) (w := w') 22 22 5 i0 Try.underlying22 HI.out.1 HI.out.2.1 HI.out.2.2.1 HI.out.2.2.2 q a0 len cap (ints ls) (H.out.1.kept (HKR.out.then hg.old) (fun _ _ _ _ => id)) H.out.2.2.2 (by have := H.out.2.2.1; omega)
    refine upon_append (.tmp 11) (.tmp 12) 22 rfl rfl rfl hr h2 ?_
    rw [HRB.out]
    exact ⟨la, lc, rfl, h1, fun b off h0 h => ⟨by have := h3 b off h0 h; have := (HKR.out.then hg.old).size; omega, (h3 b off h0 h).2⟩, h4⟩
  rw [HRB.out] at hv
  obtain ⟨la, lc, rfl, hvb⟩ := hv
  have HVB := Lib.hid hvb
  clear hvb
  go_simp
  refine hK _ _ ?_; clear hK K
  refine wpGrow_step (fun K hK => ?_); go_simp; refine hK _ _ ?_; clear hK K
  refine wpGrow_step (fun K hK => ?_); go_simp; refine hK _ _ ?_; clear hK K
  refine wpGrow_step (fun K hK => ?_)
  refine growOp_told rfl rfl (fun w' hg => ?_) (fun v wv5 hv _ => ?_)
  · obtain ⟨w3, hr, h1, h2⟩ := run_make_full (P := Try.prog) w' 0 57 28 i1 (.int .u32 0) 1 Try.underlying57 HJ.out.1 HJ.out.2.1 HJ.out.2.2.1 .i64 .i64 len (by rw [HJ.out.2.2.2]; omega) (by simp [maxLen]; omega) (Nat.zero_le _)
    refine upon_make (.tmp 15) (.tmp 15) 57 rfl rfl rfl hr ((Kept.refl _ _).grown h2 (fun k h => by cases h)) ?_
    rw [HRM.out]
    have e1 : (madeCells (Value.int .u32 0).cells (len * 1)).toList = (List.replicate len (0 : Int)).map (Value.int .u32) := by
      rw [Nat.mul_one, List.map_replicate]; exact toList_madeCells_one _ _
    rw [e1] at h1
    exact ⟨_, rfl, by unfold Own; rw [List.length_replicate]; exact h1, (HKR.out.then hg.old).size⟩
  rw [HRM.out] at hv
  obtain ⟨m, rfl, hvm⟩ := hv
  have HVM := Lib.hid hvm
  clear hvm
  go_simp
  refine hK _ _ ?_; clear hK K
  refine wpGrow_step (fun K hK => ?_); go_simp; refine hK _ _ ?_; clear hK K
  refine wpGrow_step (fun K hK => ?_)
  go_simp
  refine ⟨fun w' hg => ⟨(Kept.refl _ _).alloc _, ?_⟩, fun v wv7 hv _ => ?_⟩
  · rw [HRT.out]
    have hk2 : Kept (fun _ => False) wv2 w' := hg.seen 2 (by kernel_rfl)
    have hk5 : Kept (fun _ => False) wv5 w' := hg.seen 5 (by kernel_rfl)
    have hkW := HKR.out.then hg.old
    have hka : Kept (fun _ => False) w' (w'.alloc (.cells (TCells (cntI []) (.slice none 0 0) (.slice (some ⟨m, 0, none⟩) len len) (.slice la len lc) 0).toArray 60)) := (Kept.refl _ _).alloc _
    obtain ⟨b1, b2, b3⟩ := HVB.out
    obtain ⟨m1, m2⟩ := HVM.out
    have hmw : m < w'.heap.size := Nat.lt_of_lt_of_le (m1.lt m rfl) hk5.size
    refine ⟨w'.heap.size, m, la, lc, rfl, ⟨⟨cntI_len [], ?_⟩, Own.nil _ _ _, ?_, ?_, (by simp [Value.ownBlock]), ?_, (fun b hb => by cases hb), ?_⟩, hkW.size, m2, fun b off h0 h => (b2 b off h0 h).1⟩
    · rw [H.out.2.2.1]
      exact blk_new w' _
    · rw [H.out.2.2.1]
      have e : ints (List.replicate len 0) = List.replicate len 0 := by unfold ints; rw [List.map_replicate]; rfl
      rw [e]
      exact (m1.kept hk5 (fun _ _ => id)).kept hka (fun _ _ => id)
    · rw [H.out.2.2.1]
      exact (b1.kept hk2 (fun _ _ _ _ => id)).kept hka (fun _ _ _ _ => id)
    · intro h; have h9 : some m = some w'.heap.size := h; have := Option.some.inj h9; omega
    · intro b off h0 h
      rw [H.out.2.2.1] at h0
      obtain ⟨q1, cur, q2⟩ := b2 b off h0 h
      have q3 := hk2.blk q2 id
      have q4 := lt_of_blk q3
      refine ⟨by omega, by simp [Value.ownBlock], ?_, by simp; omega⟩
      intro h9
      cases h9
      obtain ⟨-, h2⟩ := m1.kept hk5 (fun _ _ => id)
      rcases h2 with ⟨h3, -⟩ | ⟨g, cp, cur2, h3, -, hg2, -⟩
      · cases h3
      · injection h3 with e1 e2 e3
        injection e1 with e1
        injection e1 with e1
        rw [← e1, q3] at hg2
        cases hg2
  rw [HRT.out] at hv
  obtain ⟨a, m', la', lc', rfl, hT, hWa, hWm, hWl⟩ := hv
  refine hK _ _ ?_; clear hK K
  refine wpGrow_step (fun K hK => ?_); go_simp; refine hK _ _ ?_; clear hK K
  refine wpGrow_nil ?_
  intro w9 hk9 hω
  have hT9 := hT.grow (show Kept (fun _ => False) wv7 w9 from hω 7)
  have H9 := Lib.hid (And.intro hT9 (And.intro (HKR.out.then hk9) (And.intro hWa (And.intro hWm hWl))))
  clear hT hT9 hk9 hω hWa hWm hWl
  go_wp2
  go_loopg [6, 21] len (fun gg _ iv wr => ∃ i : Nat, len ≤ gg + i ∧ i ≤ len ∧ iv = .int .i64 (i : Int) ∧ (∀ c ∈ ls.take i, c ≤ 15) ∧ TOwn wr a (cntI (ls.take i)) [] (List.replicate ls.length 0) ls (mx (ls.take i) : Nat) (.slice none 0 0) (.slice (some ⟨m', 0, none⟩) len len) la' lc' ∧ Kept (fun _ => False) W wr)
  case atStart => exact ⟨0, by omega, by omega, rfl, (fun c hc => by simp at hc), by simpa [mx] using H9.out.1, H9.out.2.1⟩
  case round =>
    obtain ⟨i, hgg, hil, rfl, hc15, hT, hkw⟩ := hrel
    have HT := Lib.hid (And.intro hc15 (And.intro hT hkw))
    by_cases hi : i < len
    · have gi : decide (i < len) = true := decide_eq_true hi
      obtain ⟨c, hcc⟩ : ∃ c, ls[i]? = some c := ⟨_, List.getElem?_eq_getElem (by rw [H.out.2.2.1]; exact hi)⟩
      obtain ⟨b, off, rfl, hcell⟩ := H.out.1.2.resolve_left (by omega)
      have hci := hkw.cell (hcell i hi) id
      rw [ints_at hcc] at hci
      have hc256 := H.out.2.1 c (List.mem_of_getElem? hcc)
      have wi : IntKind.i64.wrap ((i : Int) + 1) = (i : Int) + 1 := IntWalk.i64_in _ (by omega)
      have HCC := Lib.hid hcc
      clear hcell hcc hc15
      by_cases hbig : 15 < c
      · have g1 : decide (15 < c) = true := decide_eq_true hbig
        have g1' : decide ((15 : Int) < (c : Int)) = true := decide_eq_true (by omega)
        clear hT hkw
        go_wp2
        refine bodyPost_ret (v := .tuple #[.pointer none, .int .i64 1]) (by simp [results, Try.results8, go_sem]) rfl ?_
        have e1 := any_of (List.mem_of_getElem? HCC.out) hbig
        left
        rw [e1]
        exact ⟨by decide, rfl, HT.out.2.2⟩
      · have g1 : decide (15 < c) = false := decide_eq_false hbig
        have g1' : decide ((15 : Int) < (c : Int)) = false := decide_eq_false (by omega)
        have hall : ∀ x ∈ ls.take (i + 1), x ≤ 15 := by
          rw [take_snoc' HCC.out]
          intro x hx
          rcases List.mem_append.1 hx with h | h
          · exact HT.out.1 x h
          · have : x = c := by simpa using h
            omega
        have HALL := Lib.hid hall
        clear hall
        by_cases hc0 : c = 0
        · subst hc0
          have hT2 : TOwn wr a (cntI (ls.take (i + 1))) [] (List.replicate ls.length 0) ls (mx (ls.take (i + 1)) : Nat) (.slice none 0 0) (.slice (some ⟨m', 0, none⟩) len len) la' lc' := by
            rw [take_snoc' HCC.out, cntI_zero _ 0 rfl, mx_snoc, Nat.max_eq_left (Nat.zero_le _)]
            exact HT.out.2.1
          have HT2 := Lib.hid hT2
          clear hT hT2 hkw
          go_wp2
          go_roundg (gk - 1)
          case rel => exact ⟨i + 1, by omega, by omega, by simp, HALL.out, HT2.out, HT.out.2.2⟩
          case measure => omega
        · have g2 : decide (0 < c) = true := decide_eq_true (by omega)
          have g2' : decide ((0 : Int) < (c : Int)) = true := decide_eq_true (by omega)
          obtain ⟨WQ, hWQ⟩ : ∃ WQ, WQ = wr.drew := ⟨_, rfl⟩
          have hkQ : Kept (fun _ => False) wr WQ := by rw [hWQ]; exact (Kept.refl _ _).drew
          have hTQ := hT.grow hkQ
          have cc := (hTQ.1.cn c (by omega)).1
          rw [cntI_at _ c (by omega)] at cc
          obtain ⟨N0, hN0⟩ : ∃ n, cnt (ls.take i) c = n := ⟨_, rfl⟩
          rw [hN0] at cc
          have hN0b : N0 ≤ 320 := by
            rw [← hN0]; unfold cnt; rw [if_neg hc0]
            exact Nat.le_trans List.count_le_length (by rw [List.length_take]; omega)
          have wn : IntKind.i64.wrap ((N0 : Int) + 1) = (N0 : Int) + 1 := IntWalk.i64_in _ (by omega)
          have cl1 : (c : Int) < 16 := by omega
          have cl2 : c < 16 := by omega
          have X0 := cell_regrown cc
          have HWQ := Lib.hid (And.intro hWQ (And.intro hkQ hN0))
          clear hT hkw hTQ hWQ hkQ hN0
          go_wp2
          refine wp_region_grow #[0, 0, 1, 5, 15, 31, 63, 1, 129, 511, 1023] 10 [] (fun i => none) (by kernel_rfl) rfl (by kernel_rfl) (fun i hi => by cases hi) (fun _ _ _ _ _ h => h) ?_
          rintro _ rfl
          rw [← HWQ.out.1]
          simp only [List.take_succ_cons, List.take_zero, List.drop_succ_cons, List.drop_zero, number, Nat.reduceAdd]
          repeat (refine wpGrow_step (fun K hK => ?_); go_simp; refine hK _ _ ?_; clear hK K)
          refine wpGrow_nil ?_
          intro w10 hk10 hω
          have hT10 := (HT.out.2.1.grow HWQ.out.2.1).grow hk10
          obtain ⟨z1, z2⟩ := hT10.1.cn c (by omega)
          have hB1 := hT10.1.sn c (by omega) ((N0 : Int) + 1)
          obtain ⟨V, hV⟩ : ∃ V, w10.setCell ⟨a, c, none⟩ (.int .i64 ((N0 : Int) + 1)) = V := ⟨_, rfl⟩
          rw [hV] at hB1
          have hkV : Kept (fun i => i = a) w10 V := by rw [← hV]; exact (Kept.refl (fun i => i = a) w10).setCell (p := ⟨a, c, none⟩) (.inl rfl) _
          obtain ⟨y1, y2⟩ := hB1.fz
          obtain ⟨M0, hM0⟩ : ∃ n, mx (ls.take i) = n := ⟨_, rfl⟩
          rw [hM0] at y1 hB1
          have hM0b : M0 ≤ 15 := by rw [← hM0]; exact mx_le HT.out.1
          have hB2 := hB1.sz ((max M0 c : Nat) : Int)
          have mx1 : (if (M0 : Int) < (c : Int) then (c : Int) else (M0 : Int)) = ((max M0 c : Nat) : Int) := by split <;> omega
          have mx2 : (if (c : Int) < (M0 : Int) then (M0 : Int) else (c : Int)) = ((max M0 c : Nat) : Int) := by split <;> omega
          have mx3 : (if M0 < c then (c : Int) else (M0 : Int)) = ((max M0 c : Nat) : Int) := by split <;> omega
          have mx4 : (if c < M0 then (M0 : Int) else (c : Int)) = ((max M0 c : Nat) : Int) := by split <;> omega
          have wc : IntKind.i64.wrap (c : Int) = (c : Int) := IntWalk.i64_in _ (by omega)
          obtain ⟨MM, hMM⟩ : ∃ n, max M0 c = n := ⟨_, rfl⟩
          rw [hMM] at mx1 mx2 mx3 mx4 hB2
          obtain ⟨U, hU⟩ : ∃ U, V.setCell ⟨a, 19, none⟩ (.int .i64 (MM : Int)) = U := ⟨_, rfl⟩
          rw [hU] at hB2
          have hkU : Kept (fun i => i = a) w10 U := hkV.then (by rw [← hU]; exact (Kept.refl (fun i => i = a) V).setCell (p := ⟨a, 19, none⟩) (.inl rfl) _)
          have HU := Lib.hid (show TOwn U a (cntI (ls.take (i + 1))) [] (List.replicate ls.length 0) ls (mx (ls.take (i + 1)) : Nat) (.slice none 0 0) (.slice (some ⟨m', 0, none⟩) len len) la' lc' ∧ Kept (fun _ => False) W U from by
            obtain ⟨t1, t2, t3, t4, t5, t6, t7, t8⟩ := hT10
            refine ⟨⟨?_, t2.kept hkU (fun b hb => by cases hb), t3.kept hkU (fun b hb h => t6 (by rw [hb, h])), t4.kept hkU (fun b off h0 h h9 => (t8 b off h0 h).1 h9), t5, t6, t7, fun b off h0 h => by obtain ⟨q1, q2, q3, q4⟩ := t8 b off h0 h; have := hkU.size; exact ⟨q1, q2, q3, by omega⟩⟩, (HT.out.2.2.then (HWQ.out.2.1.then hk10)).trans (hkU.mono fun j _ (hj : j = a) => Or.inr (by rw [hj]; exact H9.out.2.2.1))⟩
            rw [take_snoc' HCC.out, mx_snoc, hM0, hMM, ← cntI_snoc _ c ⟨by omega, by omega⟩, HWQ.out.2.2]
            exact hB2)
          clear hω hT10 hB1 hkV hB2 hkU hk10 X0 hM0 hMM
          go_wp2
          go_roundg (gk - 1)
          case rel => exact ⟨i + 1, by omega, by omega, by simp, HALL.out, HU.out⟩
          case measure => omega
    · obtain rfl : i = len := by omega
      have gi : decide (i < i) = false := decide_eq_false (by omega)
      have e : ls.take i = ls := List.take_of_length_le (by rw [H.out.2.2.1]; exact Nat.le_refl _)
      rw [e] at HT
      clear e hc15 hT
      have HRM2 := Lib.hid (room_any a0 i cap ls wr (H.out.1.kept hkw (fun _ _ _ _ => id)) H.out.2.1 (by omega))
      have hne := any_no HT.out.1
      obtain ⟨r, hr⟩ : ∃ r, room ls = r := ⟨_, rfl⟩
      rw [hr] at HRM2
      have c1 := (HT.out.2.1.1.cn 1 (by omega)).1
      rw [cntI_at _ 1 (by omega)] at c1
      obtain ⟨N1, hN1⟩ : ∃ n, cnt ls 1 = n := ⟨_, rfl⟩
      rw [hN1] at c1
      have HN := Lib.hid (And.intro hne (And.intro hr hN1))
      clear hne hr hN1 hkw
      by_cases hok : r = 32768 ∨ r = 0 ∨ (r = 16384 ∧ N1 = 1)
      · have hokT : okTab ls = true := by unfold okTab; rw [HN.out.2.1, HN.out.2.2]; exact decide_eq_true hok
        have hdeal := deal_any wr a (cntI ls) ls (mx ls : Nat) (.slice (some ⟨m', 0, none⟩) i i) la' lc' HT.out.2.1 (okTab_le hokT) (by rw [H.out.2.2.1]; exact hl) H.out.2.1
        have HD := Lib.hid hdeal
        have HOK := Lib.hid hokT
        clear hdeal hokT
        rcases hok with rfl | rfl | ⟨rfl, rfl⟩
        · go_wp2_with fail
          refine HRM2.out.mono ?_
          rintro e w11 ⟨rfl, rfl⟩
          go_wp2_with fail
          refine HD.out.mono ?_
          rintro e w12 ⟨rfl, sv, hTf, hkf, hsf⟩
          have HF := Lib.hid (show NewPost W ls (.returned (.tuple #[.pointer (some ⟨a, 0, none⟩), .int .i64 0])) w12 from by
            right
            refine ⟨by rw [HN.out.1, if_pos HOK.out], a, sv, _, la', lc', rfl, hTf, HT.out.2.2.trans (hkf.mono fun j _ hj => Or.inr ?_), H9.out.2.2.1, fun b hb => ?_, fun b hb => ?_, fun b off h0 h => H9.out.2.2.2.2 b off (by rw [← H.out.2.2.1]; exact h0) h⟩
            · rcases hj with hj | hj
              · rw [hj]; exact H9.out.2.2.1
              · cases hj; exact H9.out.2.2.2.1
            · have := hsf b hb; have := HT.out.2.2.size; omega
            · cases hb; exact H9.out.2.2.2.1)
          clear hTf hkf hsf
          go_wp2
          refine bodyPost_ret (v := .tuple #[.pointer (some ⟨a, 0, none⟩), .int .i64 0]) (by simp [results, Try.results8, go_sem]) rfl HF.out
        · go_wp2_with fail
          refine HRM2.out.mono ?_
          rintro e w11 ⟨rfl, rfl⟩
          go_wp2_with fail
          refine HD.out.mono ?_
          rintro e w12 ⟨rfl, sv, hTf, hkf, hsf⟩
          have HF := Lib.hid (show NewPost W ls (.returned (.tuple #[.pointer (some ⟨a, 0, none⟩), .int .i64 0])) w12 from by
            right
            refine ⟨by rw [HN.out.1, if_pos HOK.out], a, sv, _, la', lc', rfl, hTf, HT.out.2.2.trans (hkf.mono fun j _ hj => Or.inr ?_), H9.out.2.2.1, fun b hb => ?_, fun b hb => ?_, fun b off h0 h => H9.out.2.2.2.2 b off (by rw [← H.out.2.2.1]; exact h0) h⟩
            · rcases hj with hj | hj
              · rw [hj]; exact H9.out.2.2.1
              · cases hj; exact H9.out.2.2.2.1
            · have := hsf b hb; have := HT.out.2.2.size; omega
            · cases hb; exact H9.out.2.2.2.1)
          clear hTf hkf hsf
          go_wp2
          refine bodyPost_ret (v := .tuple #[.pointer (some ⟨a, 0, none⟩), .int .i64 0]) (by simp [results, Try.results8, go_sem]) rfl HF.out
        · go_wp2_with fail
          refine HRM2.out.mono ?_
          rintro e w11 ⟨rfl, rfl⟩
          go_wp2_with fail
          refine HD.out.mono ?_
          rintro e w12 ⟨rfl, sv, hTf, hkf, hsf⟩
          have HF := Lib.hid (show NewPost W ls (.returned (.tuple #[.pointer (some ⟨a, 0, none⟩), .int .i64 0])) w12 from by
            right
            refine ⟨by rw [HN.out.1, if_pos HOK.out], a, sv, _, la', lc', rfl, hTf, HT.out.2.2.trans (hkf.mono fun j _ hj => Or.inr ?_), H9.out.2.2.1, fun b hb => ?_, fun b hb => ?_, fun b off h0 h => H9.out.2.2.2.2 b off (by rw [← H.out.2.2.1]; exact h0) h⟩
            · rcases hj with hj | hj
              · rw [hj]; exact H9.out.2.2.1
              · cases hj; exact H9.out.2.2.2.1
            · have := hsf b hb; have := HT.out.2.2.size; omega
            · cases hb; exact H9.out.2.2.2.1)
          clear hTf hkf hsf
          go_wp2
          refine bodyPost_ret (v := .tuple #[.pointer (some ⟨a, 0, none⟩), .int .i64 0]) (by simp [results, Try.results8, go_sem]) rfl HF.out
      · have hokT : okTab ls = false := by unfold okTab; rw [HN.out.2.1, HN.out.2.2]; exact decide_eq_false hok
        have HOK := Lib.hid hokT
        clear hokT
        by_cases h16 : r = 16384
        · subst h16
          have hn1 : ¬ N1 = 1 := fun h => hok (.inr (.inr ⟨rfl, h⟩))
          have n4 : ((N1 : Int) == 1) = false := by simp; omega
          clear hok
          go_wp2_with fail
          refine HRM2.out.mono ?_
          rintro e w11 ⟨rfl, rfl⟩
          go_wp2
          refine bodyPost_ret (v := .tuple #[.pointer none, .int .i64 3]) (by simp [results, Try.results8, go_sem]) rfl ?_
          left
          rw [HN.out.1, if_neg (by rw [HOK.out]; decide)]
          exact ⟨by decide, rfl, HT.out.2.2⟩
        · have hr1 : ¬ r = 32768 := fun h => hok (.inl h)
          have hr2 : ¬ r = 0 := fun h => hok (.inr (.inl h))
          clear hok
          have n1 : ((r : Int) != 32768) = true := by simp; omega
          have n2 : ((r : Int) != 0) = true := by simp; omega
          have n3 : ((r : Int) == 16384) = false := by simp; omega
          go_wp2_with fail
          refine HRM2.out.mono ?_
          rintro e w11 ⟨rfl, rfl⟩
          go_wp2
          refine bodyPost_ret (v := .tuple #[.pointer none, .int .i64 3]) (by simp [results, Try.results8, go_sem]) rfl ?_
          left
          rw [HN.out.1, if_neg (by rw [HOK.out]; decide)]
          exact ⟨by decide, rfl, HT.out.2.2⟩
end Go.Proofs.Ytndneidjnlammaa
