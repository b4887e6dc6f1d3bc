/- The law PaintLayers. -/
import Derived.Test.YtdjgmhbfohbenaaKnown
import Derived.Test.YtdjgmhbfohbenaaVal
import Derived.Test.YtdjgmhbfohbenaaFill
namespace Go.Proofs.Ytdjgmhbfohbenaa
open Go.RowKit Go.Sort Pl
set_option linter.unusedVariables false
set_option linter.unusedSimpArgs false
attribute [local go_sem] A2.growOp A2.growUpon A2.sameUpon
/-- Parts filled, one behind the other. -/
def layQ (W H n : Nat) (Q C : Nat → Q4) : Nat → List Int → List Int
  | 0, p => p
  | k + 1, p => fillL W H (Q k).a (Q k).b (Q k).c (Q k).d (layQ W H n Q C k p) (C k).a (C k).b (C k).c (C k).d n
theorem fillL_len (W H : Nat) (x y cw ch : Int) (p : List Int) (c0 c1 c2 c3 : Int) (n : Nat) : (fillL W H x y cw ch p c0 c1 c2 c3 n).length = n := tab_length _ _
theorem layQ_len (W H n : Nat) (Q C : Nat → Q4) (k : Nat) {p : List Int} (hp : p.length = n) : (layQ W H n Q C k p).length = n := by
  cases k with
  | zero => exact hp
  | succ k => exact fillL_len ..
theorem right_of_len {W H n : Nat} {p q : List Int} (h : rightM ⟨W, H, p⟩ = true) (hp : p.length = n) (hq : q.length = n) : rightM ⟨W, H, q⟩ = true := by
  unfold rightM at h ⊢
  rw [← hp] at hq
  simp only [hq] at h ⊢
  exact h
theorem fillL_bytes {W H : Nat} {x y cw ch : Int} {p : List Int} {c0 c1 c2 c3 : Int} {n : Nat} (hp : IsBytes p) (h0 : 0 ≤ c0 ∧ c0 < 256) (h1 : 0 ≤ c1 ∧ c1 < 256) (h2 : 0 ≤ c2 ∧ c2 < 256) (h3 : 0 ≤ c3 ∧ c3 < 256) : IsBytes (fillL W H x y cw ch p c0 c1 c2 c3 n) := by
  intro v hv
  unfold fillL at hv
  obtain ⟨j, hj, rfl⟩ := List.getElem_of_mem hv
  rw [tab_length] at hj
  have h := tab_get (f := paintF ⟨W, 0, 0, 0, (partS x cw W).1.toNat, (partS x cw W).2.toNat, (partS y ch H).1.toNat, (partS y ch H).2.toNat⟩ p (fun _ k => [c0, c1, c2, c3].getD k 0)) hj
  rw [List.getD_eq_getElem?_getD, List.getElem?_eq_getElem (by rw [tab_length]; exact hj)] at h
  simp only [Option.getD_some] at h
  rw [h]
  unfold paintF
  split
  · match j % 4, Nat.mod_lt j (show 4 > 0 by omega) with
    | 0, _ => exact h0
    | 1, _ => exact h1
    | 2, _ => exact h2
    | 3, _ => exact h3
  · exact getD_byte hp _
def ifQ (Q C : Nat → Q4) (j : Nat) : Value := .iface 68 (.agg #[.int .i64 (Q j).a, .int .i64 (Q j).b, .int .i64 (Q j).c, .int .i64 (Q j).d, .int .u8 (C j).a, .int .u8 (C j).b, .int .u8 (C j).c, .int .u8 (C j).d])
def ifsQ (Q C : Nat → Q4) (k : Nat) : List Value := (List.range k).map (ifQ Q C)
theorem ifsQ_len (Q C : Nat → Q4) (k : Nat) : (ifsQ Q C k).length = k := by simp [ifsQ]
theorem ifsQ_succ (Q C : Nat → Q4) (k : Nat) : ifsQ Q C (k + 1) = ifsQ Q C k ++ [ifQ Q C k] := by simp [ifsQ, List.range_succ]
theorem ifsQ_get {Q C : Nat → Q4} {k j : Nat} (h : j < k) : (ifsQ Q C k)[j]? = some (ifQ Q C j) := by simp [ifsQ, h]
def Q64 (q : Q4) : Prop := I64 q.a ∧ I64 q.b ∧ I64 q.c ∧ I64 q.d
theorem blk8 {w : World} {b : Nat} {x0 x1 x2 x3 x4 x5 x6 x7 : Value} {t : TypeId} (h : w.heap[b]? = some (.cells #[x0, x1, x2, x3, x4, x5, x6, x7] t (0, 0))) :
    w.cell? ⟨b, 0, none⟩ = some x0 ∧ w.cell? ⟨b, 1, none⟩ = some x1 ∧ w.cell? ⟨b, 2, none⟩ = some x2 ∧ w.cell? ⟨b, 3, none⟩ = some x3 ∧ w.cell? ⟨b, 4, none⟩ = some x4 ∧ w.cell? ⟨b, 5, none⟩ = some x5 ∧ w.cell? ⟨b, 6, none⟩ = some x6 ∧ w.cell? ⟨b, 7, none⟩ = some x7 :=
  ⟨blk_cell h 0, blk_cell h 1, blk_cell h 2, blk_cell h 3, blk_cell h 4, blk_cell h 5, blk_cell h 6, blk_cell h 7⟩
set_option maxRecDepth 100000 in
set_option maxHeartbeats 8000000 in
theorem fpaint_any (W H : Nat) (q c : Q4) (p : List Int) (a : Option Addr) (n cap : Nat) (w : World) (hq : Q64 q) (hr : rightM ⟨W, H, p⟩ = true) (hp : SlAt .u8 w a n p) (hn2 : n ≤ 16384) (hnil : a = none → n = 0 ∧ cap = 0) :
    Calls Try.prog 101 #[.agg #[.int .i64 q.a, .int .i64 q.b, .int .i64 q.c, .int .i64 q.d, .int .u8 c.a, .int .u8 c.b, .int .u8 c.c, .int .u8 c.d], .agg #[.int .i64 W, .int .i64 H, .slice a n cap]] w fun e w' => ∃ v, e = .returned (.agg #[.int .i64 W, .int .i64 H, v]) ∧ Made w (fillL W H q.a q.b q.c q.d p c.a c.b c.c c.d n) v w' := by
  obtain ⟨V, hV⟩ : ∃ V, ((w.alloc (.cells #[.int .i64 q.a, .int .i64 q.b, .int .i64 q.c, .int .i64 q.d, .int .u8 c.a, .int .u8 c.b, .int .u8 c.c, .int .u8 c.d] 68)).alloc (.cells #[.int .i64 W, .int .i64 H, .slice a n cap] 31)).alloc (.cells #[.int .i64 0, .int .i64 0, .slice none 0 0] 31) = V := ⟨_, rfl⟩
  have kV : Kept (fun _ => False) w V := by rw [← hV]; exact (((Kept.refl _ _).alloc _).alloc _).alloc _
  have b0 : V.heap[w.heap.size]? = some (.cells #[.int .i64 q.a, .int .i64 q.b, .int .i64 q.c, .int .i64 q.d, .int .u8 c.a, .int .u8 c.b, .int .u8 c.c, .int .u8 c.d] 68 (0, 0)) := by rw [← hV]; exact blk_alloc (blk_alloc (blk_new _ _) _) _
  have b1 : V.heap[w.heap.size + 1]? = some (.cells #[.int .i64 W, .int .i64 H, .slice a n cap] 31 (0, 0)) := by rw [← hV]; exact blk_alloc (blk_at _ _ (by simp)) _
  have b2 : V.heap[w.heap.size + 1 + 1]? = some (.cells #[.int .i64 0, .int .i64 0, .slice none 0 0] 31 (0, 0)) := by rw [← hV]; exact blk_at _ _ (by simp)
  obtain ⟨x0, x1, x2, x3, x4, x5, x6, x7⟩ := blk8 b0
  obtain ⟨⟨d0, -⟩, ⟨d1, -⟩, d2, -⟩ := blk3 b1
  have HF := Lib.hid (fill_any W H q.a q.b q.c q.d p a n cap c.a c.b c.c c.d V hq.1 hq.2.1 hq.2.2.1 hq.2.2.2 hr (hp.up kV) hn2 hnil)
  have hlt : w.heap.size + 1 + 1 < V.heap.size := lt_of_blk b2
  have HK := Lib.hid (And.intro kV (And.intro b2 hlt))
  obtain ⟨RES, hRES⟩ : ∃ R, fillL W H q.a q.b q.c q.d p c.a c.b c.c c.d n = R := ⟨_, rfl⟩
  rw [hRES] at HF ⊢
  have hRl : RES.length = n := by rw [← hRES]; exact fillL_len ..
  have HRL := Lib.hid hRl
  obtain ⟨qa, qb, qc, qd⟩ := q
  obtain ⟨ca, cb, cc, cd⟩ := c
  simp only at x0 x1 x2 x3 x4 x5 x6 x7 hV HF ⊢
  clear hq hr hp hn2 hnil kV b0 b1 b2 hlt hRES hRl
  go_enter Try.func101, Try.ntmps101
  go_wp2_with fail
  refine HF.out.mono ?_
  rintro e w2 ⟨v, rfl, ho, hk2, hf⟩
  obtain ⟨av, cv, rfl, -⟩ := ho.shape
  rw [HRL.out] at ho hf ⊢
  obtain ⟨U1, U2, U3, f1, f2, f3, ⟨z0, z0'⟩, ⟨z1, z1'⟩, ⟨z2, z2'⟩, bU, kU⟩ := store3 (hk2.blk HK.out.2.1 id) (.int .i64 W) (.int .i64 H) (.slice av n cv)
  obtain ⟨⟨m0, -⟩, ⟨m1, -⟩, m2, -⟩ := blk3 bU
  have HE := Lib.hid (And.intro (ho.kept kU (fun b hb hS => by have h9 : b = w.heap.size + 1 + 1 := hS; have h8 := hf b hb; have := HK.out.2.2; omega)) (And.intro ((HK.out.1.then hk2).trans (kU.mono fun i _ hi => Or.inr (by have h9 : i = w.heap.size + 1 + 1 := hi; omega))) (fun b hb => (by have h8 := hf b hb; have := HK.out.1.size; omega : w.heap.size ≤ b))))
  clear ho hk2 hf bU kU x0 x1 x2 x3 x4 x5 x6 x7 d0 d1 d2
  go_wp2
  exact bodyPost_ret (v := .agg #[.int .i64 W, .int .i64 H, .slice av n cv]) (by simp [results, Try.results101, go_sem, m0, m1, m2]) rfl ⟨_, rfl, HE.out⟩
set_option maxRecDepth 100000 in
set_option maxHeartbeats 8000000 in
theorem compQ_any (W H n : Nat) (Q C : Nat → Q4) (p : List Int) (a : Option Addr) (cap : Nat) (la : Option Addr) (k kc : Nat) (w : World) (hr : rightM ⟨W, H, p⟩ = true) (hp : SlAt .u8 w a n p) (hn2 : n ≤ 16384) (hnil : a = none → n = 0 ∧ cap = 0) (hk : k ≤ 20)
    (hQ : ∀ i, i < k → Q64 (Q i)) (hl : k = 0 ∨ ∃ lb, la = some ⟨lb, 0, none⟩ ∧ lb < w.heap.size ∧ ∀ j, j < k → w.cell? ⟨lb, j, none⟩ = some (ifQ Q C j)) :
    Calls Try.prog 24 #[.agg #[.int .i64 W, .int .i64 H, .slice a n cap], .slice la k kc] w fun e w' => ∃ a' c', e = .returned (.agg #[.int .i64 W, .int .i64 H, .slice a' n c']) ∧ SlAt .u8 w' a' n (layQ W H n Q C k p) ∧ Kept (fun _ => False) w w' := by
  have hpl := hp.1
  obtain ⟨V, hV⟩ : ∃ V, (w.alloc (.cells #[.int .i64 W, .int .i64 H, .slice a n cap] 31)).alloc (.cells #[.int .i64 0, .int .i64 0, .slice none 0 0] 31) = V := ⟨_, rfl⟩
  have kV : Kept (fun _ => False) w V := by rw [← hV]; exact ((Kept.refl _ _).alloc _).alloc _
  have b0 : V.heap[w.heap.size]? = some (.cells #[.int .i64 W, .int .i64 H, .slice a n cap] 31 (0, 0)) := by rw [← hV]; exact blk_alloc (blk_new _ _) _
  have b1 : V.heap[w.heap.size + 1]? = some (.cells #[.int .i64 0, .int .i64 0, .slice none 0 0] 31 (0, 0)) := by rw [← hV]; exact blk_at _ _ (by simp)
  obtain ⟨J, hJ⟩ : ∃ J : Nat → Option Addr → Nat → World → Prop, J = fun i av cv wr => Kept (fun _ => False) w wr ∧ wr.heap[w.heap.size]? = some (.cells #[.int .i64 W, .int .i64 H, .slice av n cv] 31 (0, 0)) ∧ wr.heap[w.heap.size + 1]? = some (.cells #[.int .i64 0, .int .i64 0, .slice none 0 0] 31 (0, 0)) ∧ SlAt .u8 wr av n (layQ W H n Q C i p) ∧ (av = none → n = 0 ∧ cv = 0) ∧ (∀ b off, 0 < n → av = some ⟨b, off, none⟩ → b ≠ w.heap.size ∧ b ≠ w.heap.size + 1) := ⟨_, rfl⟩
  have HJ0 := Lib.hid (show J 0 a cap V by
    rw [hJ]
    refine ⟨kV, b0, b1, hp.up kV, hnil, fun b off h0 he => ?_⟩
    have := ub_of hp b off h0 he
    omega)
  have HJE := Lib.hid (show ∀ i av cv wr, J i av cv wr → Kept (fun _ => False) w wr ∧ wr.heap[w.heap.size]? = some (.cells #[.int .i64 W, .int .i64 H, .slice av n cv] 31 (0, 0)) ∧ wr.heap[w.heap.size + 1]? = some (.cells #[.int .i64 0, .int .i64 0, .slice none 0 0] 31 (0, 0)) ∧ SlAt .u8 wr av n (layQ W H n Q C i p) ∧ (av = none → n = 0 ∧ cv = 0) ∧ (∀ b off, 0 < n → av = some ⟨b, off, none⟩ → b ≠ w.heap.size ∧ b ≠ w.heap.size + 1) by rw [hJ]; intro i av cv wr h; exact h)
  have HJS := Lib.hid (show ∀ i av cv wr, (Kept (fun _ => False) w wr ∧ wr.heap[w.heap.size]? = some (.cells #[.int .i64 W, .int .i64 H, .slice av n cv] 31 (0, 0)) ∧ wr.heap[w.heap.size + 1]? = some (.cells #[.int .i64 0, .int .i64 0, .slice none 0 0] 31 (0, 0)) ∧ SlAt .u8 wr av n (layQ W H n Q C i p) ∧ (av = none → n = 0 ∧ cv = 0) ∧ (∀ b off, 0 < n → av = some ⟨b, off, none⟩ → b ≠ w.heap.size ∧ b ≠ w.heap.size + 1)) → J i av cv wr by rw [hJ]; intro i av cv wr h; exact h)
  have HP := Lib.hid (fun (i : Nat) (hi : i < k) (av : Option Addr) (cv : Nat) (wr : World) (h : J i av cv wr) => show Calls Try.prog 101 #[.agg #[.int .i64 (Q i).a, .int .i64 (Q i).b, .int .i64 (Q i).c, .int .i64 (Q i).d, .int .u8 (C i).a, .int .u8 (C i).b, .int .u8 (C i).c, .int .u8 (C i).d], .agg #[.int .i64 W, .int .i64 H, .slice av n cv]] wr fun e w' => ∃ av' cv', e = .returned (.agg #[.int .i64 W, .int .i64 H, .slice av' n cv']) ∧ SlAt .u8 w' av' n (layQ W H n Q C (i + 1) p) ∧ (av' = none → n = 0 ∧ cv' = 0) ∧ Kept (fun _ => False) wr w' ∧ (∀ b off, 0 < n → av' = some ⟨b, off, none⟩ → wr.heap.size ≤ b) from by
    obtain ⟨-, -, -, h4, h5, -⟩ := HJE.out i av cv wr h
    refine (fpaint_any W H (Q i) (C i) (layQ W H n Q C i p) av n cv wr (hQ i hi) (right_of_len hr hpl (layQ_len W H n Q C i hpl)) h4 hn2 h5).mono ?_
    rintro e w' ⟨v, rfl, ho, hk, hf⟩
    obtain ⟨av', cv', rfl, hs, -, -, hnn, hbb⟩ := ho.shape
    rw [fillL_len] at hs hnn ⊢
    refine ⟨av', cv', rfl, hs, hnn, hk, fun b off h0 he => hf b (hbb b off he)⟩)
  have HLL := Lib.hid (fun (wr : World) (h : Kept (fun _ => False) w wr) => show k = 0 ∨ ∃ lb, la = some ⟨lb, 0, none⟩ ∧ ∀ j, j < k → wr.cell? ⟨lb, j, none⟩ = some (.iface 68 (.agg #[.int .i64 (Q j).a, .int .i64 (Q j).b, .int .i64 (Q j).c, .int .i64 (Q j).d, .int .u8 (C j).a, .int .u8 (C j).b, .int .u8 (C j).c, .int .u8 (C j).d])) from hl.imp (fun h => h) fun ⟨lb, h1, h2, h3⟩ => ⟨lb, h1, fun j hj => h.cell (h3 j hj) id⟩)
  have mm := m_fill
  clear hr hp hn2 hnil hQ hl kV b0 b1 hJ
  go_enter Try.func24, Try.ntmps24
  go_wp2
  go_loopg [6, 9] k (fun gg _ iv wr => ∃ (i : Nat) (av : Option Addr) (cv : Nat), k ≤ gg + i ∧ i ≤ k ∧ iv = .int .i64 (i : Int) ∧ J i av cv wr)
  case atStart => exact ⟨0, a, cap, by omega, by omega, rfl, HJ0.out⟩
  case round =>
    obtain ⟨i, av, cv, hgg, hik, rfl, hj⟩ := hrel
    by_cases hi1 : i < k
    · have g1 : decide (i < k) = true := decide_eq_true hi1
      have g1' : decide ((i : Int) < (k : Int)) = true := decide_eq_true (by omega)
      have wi : IntKind.i64.wrap ((i : Int) + 1) = (i : Int) + 1 := IntWalk.i64_in _ (by omega)
      have i0 : (0 : Int) ≤ (i : Int) := by omega
      have i1 : (i : Int) < (k : Int) := by omega
      have hje := HJE.out _ _ _ _ hj
      obtain ⟨lb, rfl, hcl⟩ := (HLL.out wr hje.1).resolve_left (by omega)
      have y0 := hcl i hi1
      obtain ⟨⟨d0, -⟩, ⟨d1, -⟩, d2, -⟩ := blk3 hje.2.1
      have HPI := Lib.hid (HP.out i hi1 av cv wr hj)
      have HN := Lib.hid (names_fill #[.int .i64 (Q i).a, .int .i64 (Q i).b, .int .i64 (Q i).c, .int .i64 (Q i).d, .int .u8 (C i).a, .int .u8 (C i).b, .int .u8 (C i).c, .int .u8 (C i).d] wr)
      have HJ1 := Lib.hid hje
      obtain ⟨VV, hVV⟩ : ∃ v : Array Value, #[.int .i64 (Q i).a, .int .i64 (Q i).b, .int .i64 (Q i).c, .int .i64 (Q i).d, .int .u8 (C i).a, .int .u8 (C i).b, .int .u8 (C i).c, .int .u8 (C i).d] = v := ⟨_, rfl⟩
      rw [hVV] at y0 HN HPI
      clear hj hje hcl hVV
      go_wp2_with fail
      refine HN.out.mono ?_
      rintro e w' ⟨rfl, rfl⟩
      go_wp2_with fail
      refine HPI.out.mono ?_
      rintro e w2 ⟨av', cv', rfl, hs2, hn2', hk2, hb2⟩
      obtain ⟨U1, U2, U3, f1, f2, f3, ⟨z0, z0'⟩, ⟨z1, z1'⟩, ⟨z2, z2'⟩, bU, kU⟩ := store3 (hk2.blk HJ1.out.2.1 id) (.int .i64 W) (.int .i64 H) (.slice av' n cv')
      have hsz := lt_of_blk HJ1.out.2.2.1
      have HJ2 := Lib.hid (HJS.out (i + 1) av' cv' U3 ⟨(HJ1.out.1.then hk2).trans (kU.mono fun x _ hi => Or.inr (by have h9 : x = w.heap.size := hi; omega)), bU, kU.blk (hk2.blk HJ1.out.2.2.1 id) (fun (h : w.heap.size + 1 = w.heap.size) => by omega), hs2.kept kU (fun b off h0 he (hS : b = w.heap.size) => by have := hb2 b off h0 he; omega), hn2', fun b off h0 he => by have := hb2 b off h0 he; omega⟩)
      clear hs2 hn2' hk2 hb2 bU kU hsz y0 d0 d1 d2
      go_wp2
      go_roundg (gk - 1)
      case rel => exact ⟨i + 1, av', cv', by omega, by omega, by go_num, HJ2.out⟩
      case measure => omega
    · obtain rfl : i = k := by omega
      have g1 : decide (i < i) = false := decide_eq_false (by omega)
      have hje := HJE.out _ _ _ _ hj
      obtain ⟨⟨d0, -⟩, ⟨d1, -⟩, d2, -⟩ := blk3 hje.2.1
      obtain ⟨U1, U2, U3, f1, f2, f3, ⟨z0, z0'⟩, ⟨z1, z1'⟩, ⟨z2, z2'⟩, bU, kU⟩ := store3 hje.2.2.1 (.int .i64 W) (.int .i64 H) (.slice av n cv)
      obtain ⟨⟨m0, -⟩, ⟨m1, -⟩, m2, -⟩ := blk3 bU
      have HE := Lib.hid (And.intro (hje.2.2.2.1.kept kU (fun b off h0 he (hS : b = w.heap.size + 1) => (hje.2.2.2.2.2 b off h0 he).2 hS)) (hje.1.trans (kU.mono fun x _ hi => Or.inr (by have h9 : x = w.heap.size + 1 := hi; omega))))
      clear hj hje bU kU
      go_wp2
      exact bodyPost_ret (v := .agg #[.int .i64 W, .int .i64 H, .slice av n cv]) (by simp [results, Try.results24, go_sem, m0, m1, m2]) rfl ⟨_, _, rfl, HE.out⟩
theorem nats_of {m : Mx} (h : rightM m = true) : ∃ W H : Nat, m.w = W ∧ m.h = H := by
  unfold rightM at h
  rw [Bool.and_eq_true] at h
  obtain ⟨b1, -, b3, -⟩ := sizeB_t h.1
  exact ⟨m.w.toNat, m.h.toNat, by omega, by omega⟩
theorem info122 : (Try.prog.info? 122).map (fun i => (i.zero, i.size, i.bytes)) = some (some .nilIface, 1, 16) := by kernel_rfl
theorem i64_wf {n : Int} (h : (Lit.int .i64 n).wf = true) : I64 n := by simp [Lit.wf, IntKind.min, IntKind.max, IntKind.signed, IntKind.bits] at h; unfold I64; omega
theorem u8_wf {n : Int} (h : (Lit.int .u8 n).wf = true) : 0 ≤ n ∧ n < 256 := by simp [Lit.wf, IntKind.min, IntKind.max, IntKind.signed, IntKind.bits] at h; omega
theorem layQ_bytes {W H n : Nat} {Q C : Nat → Q4} {p : List Int} (hp : IsBytes p) : ∀ (k : Nat), (∀ i, i < k → (Lit.int .u8 (C i).a).wf = true ∧ (Lit.int .u8 (C i).b).wf = true ∧ (Lit.int .u8 (C i).c).wf = true ∧ (Lit.int .u8 (C i).d).wf = true) → IsBytes (layQ W H n Q C k p)
  | 0, _ => hp
  | k + 1, h => by
    obtain ⟨h1, h2, h3, h4⟩ := h k (Nat.lt_succ_self k)
    exact fillL_bytes (layQ_bytes hp k (fun i hi => h i (Nat.lt_succ_of_lt hi))) (u8_wf h1) (u8_wf h2) (u8_wf h3) (u8_wf h4)
set_option maxRecDepth 100000 in
set_option maxHeartbeats 8000000 in
theorem layers_go (mx my : Int) (a : Option Addr) (n cap : Nat) (p : List Int) (la : Option Addr) (ln lc : Nat) (Q : Nat → Q4) (ca : Option Addr) (cn cc : Nat) (C : Nat → Q4) (W : World) (hmx : I64 mx) (hmy : I64 my)
    (hp : SlAt .u8 W a n p) (hpb : IsBytes p) (hnil : a = none → n = 0 ∧ cap = 0) (hn63 : n ≤ 9223372036854775807) (hln : ln ≤ 9223372036854775807) (hcn : cn ≤ 9223372036854775807) (hl : IsQ .i64 W la ln Q) (hc : IsQ .u8 W ca cn C) :
    Calls Try.prog 5 #[.agg #[.int .i64 mx, .int .i64 my, .slice a n cap], .slice la ln lc, .slice ca cn cc] W fun e w' => e = .returned (.bool true) ∧ Below W.heap.size W w' := by
  have hpl := hp.1
  obtain ⟨W0, hW0⟩ : ∃ W0, W.alloc (.cells #[.int .i64 mx, .int .i64 my, .slice a n cap] 31) = W0 := ⟨_, rfl⟩
  have k0 : Kept (fun _ => False) W W0 := by rw [← hW0]; exact (Kept.refl _ _).alloc _
  have b0 : W0.heap[W.heap.size]? = some (.cells #[.int .i64 mx, .int .i64 my, .slice a n cap] 31 (0, 0)) := by rw [← hW0]; exact blk_new _ _
  have HF := Lib.hid (fun w => few_any mx my a n cap w hn63)
  have HO := Lib.hid (fun w => of_any mx my a n cap w)
  have HR := Lib.hid (fun w => rright_any ⟨mx, my, p⟩ a n cap w hmx hmy hpl hn63)
  have H0 := Lib.hid (And.intro k0 b0)
  clear k0 b0
  -- what ends at once
  by_cases c1 : n ≤ 16384
  rotate_left
  · have e1 : decide (n ≤ 16384) = false := decide_eq_false c1
    rw [e1] at HF
    clear hp hpb hnil hn63 hln hcn hl hc hmx hmy hpl c1 e1 HR HO
    go_enter Try.func5, Try.ntmps5
    go_wp2_with fail
    refine (known_any _).mono ?_
    rintro e w1 ⟨rfl, hk1⟩
    obtain ⟨⟨x0, -⟩, ⟨x1, -⟩, x2, -⟩ := blk3 (hk1.blk H0.out.2 id)
    have H1 := Lib.hid (H0.out.1.then hk1)
    clear hk1
    go_wp2_with fail
    refine (HF.out _).mono ?_
    rintro e w2 ⟨rfl, hk2⟩
    have H2 := Lib.hid (H1.out.then hk2)
    clear hk2
    go_wp2
    exact bodyPost_ret (v := .bool true) (by simp [results, Try.results5, go_sem]) rfl ⟨rfl, H2.out.below⟩
  have e1 : decide (n ≤ 16384) = true := decide_eq_true c1
  rw [e1] at HF
  cases c2 : rightM ⟨mx, my, p⟩ with
  | false =>
    rw [c2] at HR
    clear hp hpb hnil hn63 hln hcn hl hc hmx hmy hpl c1 e1 c2
    go_enter Try.func5, Try.ntmps5
    go_wp2_with fail
    refine (known_any _).mono ?_
    rintro e w1 ⟨rfl, hk1⟩
    obtain ⟨⟨x0, -⟩, ⟨x1, -⟩, x2, -⟩ := blk3 (hk1.blk H0.out.2 id)
    have H1 := Lib.hid (And.intro (H0.out.1.then hk1) (hk1.blk H0.out.2 id))
    clear hk1
    go_wp2_with fail
    refine (HF.out _).mono ?_
    rintro e w2 ⟨rfl, hk2⟩
    obtain ⟨⟨x0, -⟩, ⟨x1, -⟩, x2, -⟩ := blk3 (hk2.blk H1.out.2 id)
    have H2 := Lib.hid (H1.out.1.then hk2)
    clear hk2
    go_wp2_with fail
    refine (HO.out _).mono ?_
    rintro e w3 ⟨rfl, hk3⟩
    have H3 := Lib.hid (H2.out.then hk3)
    clear hk3 x0 x1 x2
    go_wp2_with fail
    refine (HR.out _).mono ?_
    rintro e w4 ⟨rfl, hk4⟩
    have H4 := Lib.hid (H3.out.then hk4)
    clear hk4
    go_wp2
    exact bodyPost_ret (v := .bool true) (by simp [results, Try.results5, go_sem]) rfl ⟨rfl, H4.out.below⟩
  | true =>
    rw [c2] at HR
    obtain ⟨Wn, Hn, eW, eH⟩ := nats_of c2
    simp only at eW eH
    subst eW
    subst eH
    have HRI := Lib.hid c2
    clear c2 e1
    by_cases c3 : 20 < ln
    · have g3 : decide (20 < ln) = true := decide_eq_true c3
      have g3' : decide (20 < (ln : Int)) = true := decide_eq_true (by omega)
      clear hp hpb hnil hn63 hln hcn hl hc hmx hmy hpl c1 c3
      go_enter Try.func5, Try.ntmps5
      go_wp2_with fail
      refine (known_any _).mono ?_
      rintro e w1 ⟨rfl, hk1⟩
      obtain ⟨⟨x0, -⟩, ⟨x1, -⟩, x2, -⟩ := blk3 (hk1.blk H0.out.2 id)
      have H1 := Lib.hid (And.intro (H0.out.1.then hk1) (hk1.blk H0.out.2 id))
      clear hk1
      go_wp2_with fail
      refine (HF.out _).mono ?_
      rintro e w2 ⟨rfl, hk2⟩
      obtain ⟨⟨x0, -⟩, ⟨x1, -⟩, x2, -⟩ := blk3 (hk2.blk H1.out.2 id)
      have H2 := Lib.hid (And.intro (H1.out.1.then hk2) (hk2.blk H1.out.2 id))
      clear hk2
      go_wp2_with fail
      refine (HO.out _).mono ?_
      rintro e w3 ⟨rfl, hk3⟩
      obtain ⟨⟨x0, -⟩, ⟨x1, -⟩, x2, -⟩ := blk3 (hk3.blk H2.out.2 id)
      have H3 := Lib.hid (And.intro (H2.out.1.then hk3) (hk3.blk H2.out.2 id))
      clear hk3
      go_wp2_with fail
      refine (HR.out _).mono ?_
      rintro e w4 ⟨rfl, hk4⟩
      obtain ⟨⟨x0, -⟩, ⟨x1, -⟩, x2, -⟩ := blk3 (hk4.blk H3.out.2 id)
      have H4 := Lib.hid (And.intro (H3.out.1.then hk4) (hk4.blk H3.out.2 id))
      clear hk4
      go_wp2
      exact bodyPost_ret (v := .bool true) (by simp [results, Try.results5, go_sem]) rfl ⟨rfl, H4.out.1.below⟩
    have g3 : decide (20 < ln) = false := decide_eq_false c3
    have g3' : decide (20 < (ln : Int)) = false := decide_eq_false (by omega)
    by_cases c4 : cn < ln
    · have g4 : decide (cn < ln) = true := decide_eq_true c4
      have g4' : decide ((cn : Int) < (ln : Int)) = true := decide_eq_true (by omega)
      clear hp hpb hnil hn63 hln hcn hl hc hmx hmy hpl c1 c3 c4
      go_enter Try.func5, Try.ntmps5
      go_wp2_with fail
      refine (known_any _).mono ?_
      rintro e w1 ⟨rfl, hk1⟩
      obtain ⟨⟨x0, -⟩, ⟨x1, -⟩, x2, -⟩ := blk3 (hk1.blk H0.out.2 id)
      have H1 := Lib.hid (And.intro (H0.out.1.then hk1) (hk1.blk H0.out.2 id))
      clear hk1
      go_wp2_with fail
      refine (HF.out _).mono ?_
      rintro e w2 ⟨rfl, hk2⟩
      obtain ⟨⟨x0, -⟩, ⟨x1, -⟩, x2, -⟩ := blk3 (hk2.blk H1.out.2 id)
      have H2 := Lib.hid (And.intro (H1.out.1.then hk2) (hk2.blk H1.out.2 id))
      clear hk2
      go_wp2_with fail
      refine (HO.out _).mono ?_
      rintro e w3 ⟨rfl, hk3⟩
      obtain ⟨⟨x0, -⟩, ⟨x1, -⟩, x2, -⟩ := blk3 (hk3.blk H2.out.2 id)
      have H3 := Lib.hid (And.intro (H2.out.1.then hk3) (hk3.blk H2.out.2 id))
      clear hk3
      go_wp2_with fail
      refine (HR.out _).mono ?_
      rintro e w4 ⟨rfl, hk4⟩
      obtain ⟨⟨x0, -⟩, ⟨x1, -⟩, x2, -⟩ := blk3 (hk4.blk H3.out.2 id)
      have H4 := Lib.hid (And.intro (H3.out.1.then hk4) (hk4.blk H3.out.2 id))
      clear hk4
      go_wp2
      exact bodyPost_ret (v := .bool true) (by simp [results, Try.results5, go_sem]) rfl ⟨rfl, H4.out.1.below⟩
    have g4 : decide (cn < ln) = false := decide_eq_false c4
    have g4' : decide ((cn : Int) < (ln : Int)) = false := decide_eq_false (by omega)
    have HA := Lib.hid (And.intro hp (And.intro hpb (And.intro hnil (And.intro hpl c1))))
    have HQ := Lib.hid (And.intro hl hc)
    have HLN := Lib.hid (show ln ≤ 20 ∧ ln ≤ cn by omega)
    have hub := ub_of hp
    have HUB := Lib.hid hub
    clear hp hpb hnil hn63 hln hcn hl hc hmx hmy hpl c1 c3 c4 hub
    go_enter Try.func5, Try.ntmps5
    go_wp2_with fail
    refine (known_any _).mono ?_
    rintro e w1 ⟨rfl, hk1⟩
    obtain ⟨⟨x0, -⟩, ⟨x1, -⟩, x2, -⟩ := blk3 (hk1.blk H0.out.2 id)
    have H1 := Lib.hid (And.intro (H0.out.1.then hk1) (hk1.blk H0.out.2 id))
    clear hk1
    go_wp2_with fail
    refine (HF.out _).mono ?_
    rintro e w2 ⟨rfl, hk2⟩
    obtain ⟨⟨x0, -⟩, ⟨x1, -⟩, x2, -⟩ := blk3 (hk2.blk H1.out.2 id)
    have H2 := Lib.hid (And.intro (H1.out.1.then hk2) (hk2.blk H1.out.2 id))
    clear hk2
    go_wp2_with fail
    refine (HO.out _).mono ?_
    rintro e w3 ⟨rfl, hk3⟩
    obtain ⟨⟨x0, -⟩, ⟨x1, -⟩, x2, -⟩ := blk3 (hk3.blk H2.out.2 id)
    have H3 := Lib.hid (And.intro (H2.out.1.then hk3) (hk3.blk H2.out.2 id))
    clear hk3
    go_wp2_with fail
    refine (HR.out _).mono ?_
    rintro e w4 ⟨rfl, hk4⟩
    obtain ⟨⟨x0, -⟩, ⟨x1, -⟩, x2, -⟩ := blk3 (hk4.blk H3.out.2 id)
    have H4 := Lib.hid (And.intro (H3.out.1.then hk4) (hk4.blk H3.out.2 id))
    clear hk4
    go_wp2_with fail
    refine (HO.out _).mono ?_
    rintro e w5 ⟨rfl, hk5⟩
    obtain ⟨V, hV⟩ : ∃ V, w5.alloc (.cells #[.int .i64 Wn, .int .i64 Hn, .slice a n cap] 35) = V := ⟨_, rfl⟩
    have kV : Kept (fun _ => False) w5 V := by rw [← hV]; exact (Kept.refl _ _).alloc _
    have b5 : V.heap[w5.heap.size]? = some (.cells #[.int .i64 Wn, .int .i64 Hn, .slice a n cap] 35 (0, 0)) := by rw [← hV]; exact blk_new _ _
    have hs5 : W.heap.size ≤ w5.heap.size := (H4.out.1.then hk5).size
    obtain ⟨J, hJ⟩ : ∃ J : Nat → Value → Option Addr → Nat → World → Prop, J = fun i gv av cv wr => Kept (fun _ => False) W wr ∧ wr.heap[W.heap.size]? = some (.cells #[.int .i64 Wn, .int .i64 Hn, .slice a n cap] 31 (0, 0)) ∧ wr.heap[w5.heap.size]? = some (.cells #[.int .i64 Wn, .int .i64 Hn, .slice av n cv] 35 (0, 0)) ∧ SlAt .u8 wr av n (layQ Wn Hn n Q C i p) ∧ (av = none → n = 0 ∧ cv = 0) ∧ (∀ b off, 0 < n → av = some ⟨b, off, none⟩ → b ≠ w5.heap.size ∧ gv.ownBlock ≠ some b) ∧ OwnV 122 wr gv (ifsQ Q C i) ∧ (∀ b, gv.ownBlock = some b → w5.heap.size < b) := ⟨_, rfl⟩
    have HJ0 := Lib.hid (show J 0 (.slice none 0 0) a cap V by
      rw [hJ]
      exact ⟨H4.out.1.then (hk5.then kV), (hk5.then kV).blk H4.out.2 id, b5, HA.out.1.up (H4.out.1.then (hk5.then kV)), HA.out.2.2.1, fun b off h0 he => ⟨by have := HUB.out b off h0 he; omega, fun h => by cases h⟩, OwnV.nil _ _, fun b h => by cases h⟩)
    have HJE := Lib.hid (show ∀ i gv av cv wr, J i gv av cv wr → Kept (fun _ => False) W wr ∧ wr.heap[W.heap.size]? = some (.cells #[.int .i64 Wn, .int .i64 Hn, .slice a n cap] 31 (0, 0)) ∧ wr.heap[w5.heap.size]? = some (.cells #[.int .i64 Wn, .int .i64 Hn, .slice av n cv] 35 (0, 0)) ∧ SlAt .u8 wr av n (layQ Wn Hn n Q C i p) ∧ (av = none → n = 0 ∧ cv = 0) ∧ (∀ b off, 0 < n → av = some ⟨b, off, none⟩ → b ≠ w5.heap.size ∧ gv.ownBlock ≠ some b) ∧ OwnV 122 wr gv (ifsQ Q C i) ∧ (∀ b, gv.ownBlock = some b → w5.heap.size < b) by rw [hJ]; intro i gv av cv wr h; exact h)
    have HJS := Lib.hid (show ∀ i gv av cv wr, (Kept (fun _ => False) W wr ∧ wr.heap[W.heap.size]? = some (.cells #[.int .i64 Wn, .int .i64 Hn, .slice a n cap] 31 (0, 0)) ∧ wr.heap[w5.heap.size]? = some (.cells #[.int .i64 Wn, .int .i64 Hn, .slice av n cv] 35 (0, 0)) ∧ SlAt .u8 wr av n (layQ Wn Hn n Q C i p) ∧ (av = none → n = 0 ∧ cv = 0) ∧ (∀ b off, 0 < n → av = some ⟨b, off, none⟩ → b ≠ w5.heap.size ∧ gv.ownBlock ≠ some b) ∧ OwnV 122 wr gv (ifsQ Q C i) ∧ (∀ b, gv.ownBlock = some b → w5.heap.size < b)) → J i gv av cv wr by rw [hJ]; intro i gv av cv wr h; exact h)
    have HS5 := Lib.hid hs5
    have HSZ5 := Lib.hid (show W.heap.size + 1 ≤ w5.heap.size from Nat.le_trans (lt_of_blk H4.out.2) hk5.size)
    clear hk5 kV b5 hs5 hJ x0 x1 x2
    go_wp2
    go_loopg [7, 9] ln (fun gg g0 iv wr => ∃ (i : Nat) (gv : Value) (av : Option Addr) (cv : Nat), gv = g0 ∧ ln ≤ gg + i ∧ i ≤ ln ∧ iv = .int .i64 (i : Int) ∧ J i gv av cv wr)
    case atStart => exact ⟨0, _, a, cap, rfl, by omega, by omega, rfl, HJ0.out⟩
    case round =>
      obtain ⟨i, gv, av, cv, rfl, hgg, hil, rfl, hj⟩ := hrel
      by_cases hi1 : i < ln
      · have g1 : decide (i < ln) = true := decide_eq_true hi1
        have g1' : decide ((i : Int) < (ln : Int)) = true := decide_eq_true (by omega)
        have wi : IntKind.i64.wrap ((i : Int) + 1) = (i : Int) + 1 := IntWalk.i64_in _ (by have := HLN.out; omega)
        have i0 : (0 : Int) ≤ (i : Int) := by omega
        have i1 : (i : Int) < (ln : Int) := by omega
        have i2 : (i : Int) < (cn : Int) := by have := HLN.out; omega
        have i3 : i < cn := by have := HLN.out; omega
        have hje := HJE.out _ _ _ _ _ hj
        obtain ⟨lb, lo, rfl, -, hlc⟩ := HQ.out.1.resolve_left (by omega)
        obtain ⟨cb, co, rfl, -, hcc⟩ := HQ.out.2.resolve_left (by omega)
        obtain ⟨l0, l1, l2, l3, lw⟩ := hlc i hi1
        obtain ⟨c0, c1, c2, c3, cw⟩ := hcc i i3
        obtain ⟨WR, hWR⟩ : ∃ WR, WR = wr.drew := ⟨_, rfl⟩
        have kR : Kept (fun _ => False) wr WR := by rw [hWR]; exact (Kept.refl _ _).drew
        have kWR := hje.1.then kR
        have L0 := cell_regrown (kWR.cell l0 id)
        have L1 := cell_regrown (kWR.cell l1 id)
        have L2 := cell_regrown (kWR.cell l2 id)
        have L3 := cell_regrown (kWR.cell l3 id)
        have C0 := cell_regrown (kWR.cell c0 id)
        have C1 := cell_regrown (kWR.cell c1 id)
        have C2 := cell_regrown (kWR.cell c2 id)
        have C3 := cell_regrown (kWR.cell c3 id)
        rw [← Nat.add_assoc] at L1 L2 L3 C1 C2 C3
        have HWR := Lib.hid hWR
        obtain ⟨ga, gc, hge, hgl, hgc, hgn, hgg', hgo⟩ := hje.2.2.2.2.2.2.1.shape
        rw [ifsQ_len] at hge
        obtain ⟨IFV, hIF⟩ : ∃ v, ifQ Q C i = v := ⟨_, rfl⟩
        have HJ1 := Lib.hid (And.intro hje kR)
        have HWF := Lib.hid (And.intro lw cw)
        have HGE := Lib.hid hge
        clear hj hje hlc hcc l0 l1 l2 l3 c0 c1 c2 c3 lw cw kR kWR hWR hgl hgc hgn hgg' hgo hge
        go_wp2
        refine A2.wp_region_grow (fun _ => false) #[0, 0, 0, 6, 14, 30, 0, 0, 192, 448, 960, 0, 0, 6144, 14336, 30720, 0, 0, 196608, 458752, 983040, 0, 0, 6291456, 14680064, 33554430, 67108862, 134217726, 268435455, 536870911] 27 [0] (fun _ => none) (by kernel_rfl) rfl (by kernel_rfl) (fun i hi => rfl) (fun _ _ _ _ _ h => h) ?_
        rintro _ rfl
        rw [← HWR.out]
        simp only [List.take_succ_cons, List.take_zero, List.drop_succ_cons, List.drop_zero, A2.number, Nat.reduceAdd]
        repeat (refine A2.wpGrow_step (fun K hK => ?_); go_simp; refine hK _ _ ?_; clear hK K)
        refine A2.wpGrow_nil ?_
        intro w6 hk6 hω
        have kW6 := HJ1.out.1.1.then (HJ1.out.2.then hk6)
        obtain ⟨A1, hA1⟩ : ∃ A1, w6.alloc (.cells #[.iface 68 (.agg #[.int .i64 (Q i).a, .int .i64 (Q i).b, .int .i64 (Q i).c, .int .i64 (Q i).d, .int .u8 (C i).a, .int .u8 (C i).b, .int .u8 (C i).c, .int .u8 (C i).d])] 122) = A1 := ⟨_, rfl⟩
        have kA1 : Kept (fun _ => False) w6 A1 := by rw [← hA1]; exact (Kept.refl _ _).alloc _
        have bA1 : A1.heap[w6.heap.size]? = some (.cells #[ifQ Q C i] 122 (0, 0)) := by rw [← hA1]; exact blk_new _ _
        obtain ⟨i0', hi0, hz0, hs0, hb0⟩ := info_parts info122
        have HI0 := Lib.hid (And.intro hi0 (And.intro hz0 (And.intro hs0 hb0)))
        have hon := (HJ1.out.1.2.2.2.2.2.2.1.kept (HJ1.out.2.then hk6) (fun _ _ => id)).kept kA1 (fun _ _ => id)
        have HA1 := Lib.hid (And.intro (kW6.then kA1) (And.intro hon (And.intro (one_lit bA1) (And.intro ((HJ1.out.2.then hk6).then kA1) kA1.size))))
        have h63 : (9223372036854775807 : Nat) = maxLen := rfl
        clear hω hk6 kW6 kA1 bA1 hi0 hz0 hs0 hb0 hon L0 L1 L2 L3 C0 C1 C2 C3
        go_wp2_with (at_builtin; refine wpList_appV rfl (.tmp 41) (.tmp 68) 63 rfl 122 i0' .nilIface 16 Try.underlying63 HI0.out.1 HI0.out.2.1 HI0.out.2.2.1 HI0.out.2.2.2 rfl gv _ rfl HA1.out.2.1 (some ⟨w6.heap.size, 0, none⟩) 1 1 [ifQ Q C i] rfl (fun h => by cases h) rfl (by intro u hu; cases hu with | head => rfl | tail _ h => cases h) HA1.out.2.2.1 (by rw [ifsQ_len]; have := HLN.out; omega) (by rw [ifsQ_len]; have := HLN.out; omega) ?_; intro v8 w8 ho8 hk8 hpr8; have H8 := Lib.hid (And.intro ho8 (And.intro hk8 hpr8)); clear ho8 hk8 hpr8)
        have kW8 : Kept (fun _ => False) W w8 := HA1.out.1.trans (H8.out.2.1.mono fun x _ hx => Or.inr (by have h1 := HJ1.out.1.2.2.2.2.2.2.2 x hx; have := HS5.out; omega))
        have hb35 := H8.out.2.1.blk (HA1.out.2.2.2.1.blk HJ1.out.1.2.2.1 id) (fun h => by have h1 := HJ1.out.1.2.2.2.2.2.2.2 _ h; omega)
        have hs8 : SlAt .u8 w8 av n (layQ Wn Hn n Q C i p) := (HJ1.out.1.2.2.2.1.up HA1.out.2.2.2.1).kept H8.out.2.1 (fun b off h0 he h => (HJ1.out.1.2.2.2.2.2.1 b off h0 he).2 h)
        obtain ⟨lb', lo', hle, -, hlc⟩ := HQ.out.1.resolve_left (by omega)
        cases hle
        obtain ⟨cb', co', hce, -, hcc⟩ := HQ.out.2.resolve_left (by omega)
        cases hce
        obtain ⟨l0, l1, l2, l3, lw⟩ := hlc i hi1
        obtain ⟨c0, c1, c2, c3, cw⟩ := hcc i i3
        have L0 := kW8.cell l0 id
        have L1 := kW8.cell l1 id
        have L2 := kW8.cell l2 id
        have L3 := kW8.cell l3 id
        have C0 := kW8.cell c0 id
        have C1 := kW8.cell c1 id
        have C2 := kW8.cell c2 id
        have C3 := kW8.cell c3 id
        rw [← Nat.add_assoc] at L1 L2 L3 C1 C2 C3
        obtain ⟨⟨d0, -⟩, ⟨d1, -⟩, d2, -⟩ := blk3 hb35
        have HRF := Lib.hid (rfill_any Wn Hn (Q i).a (Q i).b (Q i).c (Q i).d (layQ Wn Hn n Q C i p) av n cv (C i).a (C i).b (C i).c (C i).d w8.drew (i64_wf HWF.out.1.1) (i64_wf HWF.out.1.2.1) (i64_wf HWF.out.1.2.2.1) (i64_wf HWF.out.1.2.2.2) (right_of_len HRI.out HA.out.2.2.2.1 (layQ_len Wn Hn n Q C i HA.out.2.2.2.1)) (hs8.up ((Kept.refl (fun _ => False) _).drew)) HA.out.2.2.2.2 HJ1.out.1.2.2.2.2.1)
        have HW8 := Lib.hid (And.intro (kW8.then ((Kept.refl (fun _ => False) w8).drew)) hb35)
        have hz8 : w8.heap.size = w8.drew.heap.size := rfl
        have HZ8 := Lib.hid (show A1.heap.size ≤ w8.drew.heap.size from H8.out.2.1.size)
        clear kW8 hb35 hs8 hlc hcc l0 l1 l2 l3 c0 c1 c2 c3 lw cw hz8
        go_wp2
        go_still_tail 25, (by kernel_rfl)
        change wpList _ _ _ _ _ w8.drew
        clear L0 L1 L2 L3 C0 C1 C2 C3 d0 d1 d2
        go_wp2_with fail
        refine HRF.out.mono ?_
        rintro e w9 ⟨v9, rfl, ho9, hk9, hf9⟩
        obtain ⟨av', cv', rfl, hs9, -, -, hn9, hb9⟩ := ho9.shape
        rw [fillL_len] at hs9 hn9 hb9 ⊢
        obtain ⟨U1, U2, U3, f1, f2, f3, ⟨z0, z0'⟩, ⟨z1, z1'⟩, ⟨z2, z2'⟩, bU, kU⟩ := store3 (hk9.blk (show w8.drew.heap[w5.heap.size]? = _ from HW8.out.2) id) (.int .i64 Wn) (.int .i64 Hn) (.slice av' n cv')
        have hv8 : ∀ b, v8.ownBlock = some b → w5.heap.size < b ∧ b < w8.drew.heap.size := fun b hb => ⟨by
          rcases H8.out.2.2 with h | h
          · exact HJ1.out.1.2.2.2.2.2.2.2 b (by rw [← h]; exact hb)
          · rw [hb] at h; have h9 := Option.some.inj h; have := lt_of_blk HJ1.out.1.2.2.1; have := HA1.out.2.2.2.1.size; omega, H8.out.1.lt b hb⟩
        have hfb : ∀ b off, 0 < n → av' = some ⟨b, off, none⟩ → w8.drew.heap.size ≤ b := fun b off h0 he => hf9 b (by rw [fillL_len]; exact hb9 b off he)
        have HJ2 := Lib.hid (HJS.out (i + 1) v8 av' cv' U3 ⟨(HW8.out.1.then hk9).trans (kU.mono fun x _ hi => Or.inr (by have h9 : x = w5.heap.size := hi; have := HS5.out; omega)), kU.blk (hk9.blk ((Kept.refl (fun _ => False) w8).drew.blk (H8.out.2.1.blk (HA1.out.2.2.2.1.blk HJ1.out.1.2.1 id) (fun h => by have h1 := HJ1.out.1.2.2.2.2.2.2.2 _ h; have := HS5.out; omega)) id) id) (fun (h : W.heap.size = w5.heap.size) => by have h1 := lt_of_blk H4.out.2; have h2 := HSZ5.out; omega), bU, hs9.kept kU (fun b off h0 he (hS : b = w5.heap.size) => by have h1 := hfb b off h0 he; have h2 := HZ8.out; have h3 := lt_of_blk HJ1.out.1.2.2.1; have h4 := HA1.out.2.2.2.1.size; omega), hn9, fun b off h0 he => ⟨by have h1 := hfb b off h0 he; have h2 := HZ8.out; have h3 := lt_of_blk HJ1.out.1.2.2.1; have h4 := HA1.out.2.2.2.1.size; omega, fun h => by have h1 := hfb b off h0 he; have h2 := (hv8 b h).2; omega⟩, by rw [ifsQ_succ]; exact (((H8.out.1.kept ((Kept.refl (fun _ => False) w8).drew) (fun _ _ => id)).kept hk9 (fun _ _ => id)).kept kU (fun b hb (hS : b = w5.heap.size) => by have := (hv8 b hb).1; omega)), fun b hb => (hv8 b hb).1⟩)
        clear ho9 hk9 hf9 hs9 hn9 hb9 bU kU hv8 hfb
        go_wp2
        go_roundg (gk - 1)
        case rel => exact ⟨i + 1, v8, av', cv', rfl, by omega, by omega, by go_num, HJ2.out⟩
        case measure => omega
      · obtain rfl : i = ln := by omega
        have g1 : decide (i < i) = false := decide_eq_false (by omega)
        have hje := HJE.out _ _ _ _ _ hj
        obtain ⟨WR, hWR⟩ : ∃ WR, WR = wr.drew := ⟨_, rfl⟩
        have kR : Kept (fun _ => False) wr WR := by rw [hWR]; exact (Kept.refl _ _).drew
        obtain ⟨⟨d0, -⟩, ⟨d1, -⟩, d2, -⟩ := blk3 (kR.blk hje.2.1 id)
        obtain ⟨⟨e0, -⟩, ⟨e1, -⟩, e2, -⟩ := blk3 (kR.blk hje.2.2.1 id)
        have X0 := cell_regrown d0
        have X1 := cell_regrown d1
        have X2 := cell_regrown d2
        have Y0 := cell_regrown e0
        have Y1 := cell_regrown e1
        have Y2 := cell_regrown e2
        have hown := hje.2.2.2.2.2.2.1.kept kR (fun _ _ => id)
        obtain ⟨ga, gc, hge, hgl, hgc, hgn, hgg', hgo⟩ := hown.shape
        rw [ifsQ_len] at hge hgg' hgl hgn
        subst hge
        have HCMP := Lib.hid (fun (w' : World) (hk : Kept (fun _ => False) WR w') => show Calls Try.prog 24 #[.agg #[.int .i64 Wn, .int .i64 Hn, .slice a n cap], .slice ga i gc] w' fun e w'' => ∃ a' c', e = .returned (.agg #[.int .i64 Wn, .int .i64 Hn, .slice a' n c']) ∧ SlAt .u8 w'' a' n (layQ Wn Hn n Q C i p) ∧ Kept (fun _ => False) w' w'' from
          compQ_any Wn Hn n Q C p a cap ga i gc w' HRI.out (HA.out.1.up ((hje.1.then kR).then hk)) HA.out.2.2.2.2 HA.out.2.2.1 HLN.out.1 (fun j hj => by
            obtain ⟨lb', lo', -, -, hlc⟩ := HQ.out.1.resolve_left (by omega)
            have h := (hlc j hj).2.2.2.2
            exact ⟨i64_wf h.1, i64_wf h.2.1, i64_wf h.2.2.1, i64_wf h.2.2.2⟩) (by
            by_cases h0 : i = 0
            · exact .inl h0
            · obtain ⟨g, rfl⟩ := hgg' (by omega)
              have hat := hown.at
              exact .inr ⟨g, rfl, Nat.lt_of_lt_of_le hat.2.2.1 hk.size, fun j hj => hk.cell ((hat.2.2.2.1 j hj).trans (ifsQ_get hj)) id⟩))
        obtain ⟨RC, hRC⟩ : ∃ R : Value → World → Prop, R = fun v w' => ∃ a' c', v = .agg #[.int .i64 Wn, .int .i64 Hn, .slice a' n c'] ∧ SlAt .u8 w' a' n (layQ Wn Hn n Q C i p) := ⟨_, rfl⟩
        have HRC := Lib.hid hRC
        have HWR := Lib.hid hWR
        have HJ1 := Lib.hid (And.intro hje kR)
        clear hj hje kR hown hgl hgc hgn hgg' hgo hRC hWR d0 d1 d2 e0 e1 e2
        go_wp2
        refine A2.wp_region_grow (fun _ => false) #[0, 0, 3, 0, 15, 31] 4 [] (fun j => if j = 2 then some RC else none) (by kernel_rfl) rfl (by kernel_rfl) (fun i hi => by cases hi) (fun _ _ _ _ _ h => h) ?_
        rintro _ rfl
        rw [← HWR.out]
        simp only [List.take_succ_cons, List.take_zero, List.drop_succ_cons, List.drop_zero, A2.number, Nat.reduceAdd]
        repeat (refine A2.wpGrow_step (fun K hK => ?_); go_simp; refine hK _ _ ?_; clear hK K)
        refine A2.wpGrow_step (fun K hK => ?_)
        go_simp
        refine ⟨fun w' hg => ?_, fun v2 w2 hv2 hg2 _ => ?_⟩
        · with_reducible refine (HCMP.out w' hg.old).mono ?_
          exact (fun e9 w'' ⟨a', c', he, hs, hk⟩ => ⟨_, he, hk, by rw [HRC.out]; exact ⟨a', c', rfl, hs⟩⟩)
        rw [HRC.out] at hv2
        obtain ⟨a', c', rfl, hs2⟩ := hv2
        have HS2 := Lib.hid hs2
        clear hs2
        refine hK _ _ ?_; clear hK K
        repeat (refine A2.wpGrow_step (fun K hK => ?_); go_simp; refine hK _ _ ?_; clear hK K)
        refine A2.wpGrow_nil ?_
        intro w3' hk3 hω
        have HAL := Lib.hid (show Calls Try.prog 14 #[.agg #[.int .i64 Wn, .int .i64 Hn, .slice a' n c'], .agg #[.int .i64 Wn, .int .i64 Hn, .slice av n cv]] w3' fun e w' => e = .returned (.bool true) ∧ Kept (fun _ => False) w3' w' from by
          have hb := layQ_bytes (W := Wn) (H := Hn) (n := n) (Q := Q) (C := C) HA.out.2.1 i (fun j hj => by
            obtain ⟨cb', co', -, -, hcc⟩ := HQ.out.2.resolve_left (by have := HLN.out; omega)
            exact (hcc j (by have := HLN.out; omega)).2.2.2.2)
          have h := alike_any ⟨Wn, Hn, layQ Wn Hn n Q C i p⟩ ⟨Wn, Hn, layQ Wn Hn n Q C i p⟩ a' av n n c' cv w3' (HS2.out.up (show Kept (fun _ => False) w2 w3' from hω 2)) (HJ1.out.1.2.2.2.1.up (HJ1.out.2.then hk3)) hb hb
          rw [sameM_self] at h
          exact h)
        have HE := Lib.hid (HJ1.out.1.1.then (HJ1.out.2.then hk3))
        clear hω hk3 hg2 X0 X1 X2 Y0 Y1 Y2
        go_wp2_with fail
        refine HAL.out.mono ?_
        rintro e w4' ⟨rfl, hk4⟩
        have HE2 := Lib.hid (HE.out.then hk4)
        clear hk4
        go_wp2
        exact bodyPost_ret (v := .bool true) (by simp [results, Try.results5, go_sem]) rfl ⟨rfl, HE2.out.below⟩
theorem law_layers {mx my : Int} {a : Option Addr} {n cap : Nat} {z : List Int} {la : Option Addr} {ln lc : Nat} {Q : Nat → Q4} {ca : Option Addr} {cn cc : Nat} {C : Nat → Q4} {w : World} (f0 : (Lit.int .i64 mx).wf = true ∧ (Lit.int .i64 my).wf = true ∧ IsRow .u8 w a n cap z)
    (f1 : IsQ .i64 w la ln Q ∧ ln ≤ lc ∧ lc ≤ maxLen) (f2 : IsQ .u8 w ca cn C ∧ cn ≤ cc ∧ cc ≤ maxLen) :
    Calls Try.prog 5 #[.agg #[.int .i64 mx, .int .i64 my, .slice a n cap], .slice la ln lc, .slice ca cn cc] w fun e w' => e = .returned (.bool true) ∧ Below w.heap.size w w' := by
  obtain ⟨h1, h2, h3, h4, h5, h6⟩ := f0.2.2.slAt
  have hm : (9223372036854775807 : Nat) = maxLen := rfl
  exact layers_go mx my a n cap (z.take n) la ln lc Q ca cn cc C w (i64_wf f0.1) (i64_wf f0.2.1) h1 (fun x hx => u8_wf (h4 x hx)) h6 (by omega) (by omega) (by omega) f1.1 f2.1
end Go.Proofs.Ytdjgmhbfohbenaa
