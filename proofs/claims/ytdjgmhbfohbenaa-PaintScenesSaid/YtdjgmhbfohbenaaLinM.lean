/- CelR, LinD, TxtP: several texts in one. -/
import Derived.Test.YtdjgmhbfohbenaaMDrw
import Derived.Test.YtdjgmhbfohbenaaMCut
import Derived.Deep.Slices
import Derived.Deep.Fields
import Derived.OpenShut
namespace Go.Proofs.Ytdjgmhbfohbenaa
open Go.RowKit Go.Sort Pl
set_option linter.unusedVariables false
set_option linter.unusedSimpArgs false
theorem Cl.vs_len (p : Cl) : p.vs.length = 5 := rfl
def CAt (w : World) (b o : Nat) (p : Cl) : Prop := ∀ f, f < 5 → w.cell? ⟨b, o + f, none⟩ = p.vs[f]?
theorem CAt.kept {S : Nat → Prop} {w w' : World} {b o : Nat} {p : Cl} (h : CAt w b o p) (hk : Kept S w w') (hn : ¬ S b) : CAt w' b o p := fun f hf => by
  have hv : p.vs[f]? = some (p.vs[f]'(by rw [p.vs_len]; exact hf)) := List.getElem?_eq_getElem _
  rw [hv]
  exact hk.cell ((h f hf).trans hv) hn
/-- All cells of a list of events. -/
def flat (L : List Cl) : List Value := L.flatMap Cl.vs
theorem flat_length (L : List Cl) : (flat L).length = L.length * 5 := by
  induction L with
  | nil => rfl
  | cons p L ih => show (p.vs ++ flat L).length = _; rw [List.length_append, ih, p.vs_len, List.length_cons]; omega
theorem flat_append (L M : List Cl) : flat (L ++ M) = flat L ++ flat M := by unfold flat; rw [List.flatMap_append]
theorem flat_get : ∀ (L : List Cl) (j f : Nat) (p : Cl), L[j]? = some p → f < 5 → (flat L)[j * 5 + f]? = p.vs[f]?
  | [], j, f, p, h, _ => by simp at h
  | q :: L, 0, f, p, h, hf => by
    simp at h; subst h
    show (q.vs ++ flat L)[0 * 5 + f]? = _
    rw [Nat.zero_mul, Nat.zero_add, List.getElem?_append_left (by rw [q.vs_len]; exact hf)]
  | q :: L, j + 1, f, p, h, hf => by
    show (q.vs ++ flat L)[(j + 1) * 5 + f]? = _
    rw [List.getElem?_append_right (by rw [q.vs_len]; omega), q.vs_len, show (j + 1) * 5 + f - 5 = j * 5 + f by omega]
    exact flat_get L j f p (by simpa using h) hf
theorem flat_one (L : List Cl) : ∀ u ∈ flat L, u.oneCell' = true := by
  intro u hu
  obtain ⟨p, -, hp⟩ := List.mem_flatMap.1 hu
  simp only [Cl.vs, List.mem_cons, List.not_mem_nil, or_false] at hp
  rcases hp with rfl | rfl | rfl | rfl | rfl <;> rfl
/-- A slice that reads as a list of events. -/
def SlC (w : World) (a : Option Addr) (n : Nat) (L : List Cl) : Prop := L.length = n ∧ (n = 0 ∨ ∃ b off, a = some ⟨b, off, none⟩ ∧ ∀ j p, L[j]? = some p → CAt w b (off + j * 5) p)
theorem SlC.kept {S : Nat → Prop} {w w' : World} {a : Option Addr} {n : Nat} {L : List Cl} (h : SlC w a n L) (hk : Kept S w w') (hn : ∀ b off, 0 < n → a = some ⟨b, off, none⟩ → ¬ S b) : SlC w' a n L := by
  obtain ⟨h1, h2⟩ := h
  refine ⟨h1, ?_⟩
  by_cases h0 : n = 0
  · exact .inl h0
  · obtain ⟨b, off, ha, hc⟩ := h2.resolve_left h0
    exact .inr ⟨b, off, ha, fun j p hp => (hc j p hp).kept hk (hn b off (by omega) ha)⟩
/-- A slice of events that the call owns. -/
def OwnC (w : World) (v : Value) (L : List Cl) : Prop := w.ownsRow 0 100 5 v L.length (flat L)
theorem OwnC.nil (w : World) : OwnC w (.slice none 0 0) [] := World.ownsRow_nil w 0 100 5
theorem OwnC.kept {S : Nat → Prop} {w w' : World} {v : Value} {L : List Cl} (h : OwnC w v L) (hk : Kept S w w') (hn : ∀ b, v.ownBlock = some b → ¬ S b) : OwnC w' v L := by
  obtain ⟨h1, h2⟩ := h
  refine ⟨h1, ?_⟩
  rcases h2 with h2 | ⟨g, cap, cur, rfl, hb, hg, r⟩
  · exact .inl h2
  · exact .inr ⟨g, cap, cur, rfl, hb, hk.blk hg (hn g rfl), r⟩
theorem OwnC.lt {w : World} {v : Value} {L : List Cl} (h : OwnC w v L) : ∀ b, v.ownBlock = some b → b < w.heap.size := fun b hb => (World.ownsRow.lt h b hb).2
theorem OwnC.shape {w : World} {v : Value} {L : List Cl} (h : OwnC w v L) : ∃ a cap, v = .slice a L.length cap ∧ SlC w a L.length L ∧ L.length ≤ cap ∧ cap ≤ maxLen ∧ (a = none → L.length = 0 ∧ cap = 0) ∧
    (∀ b off, a = some ⟨b, off, none⟩ → v.ownBlock = some b) := by
  obtain ⟨h1, h2⟩ := h
  rcases h2 with ⟨rfl, h0⟩ | ⟨g, cap, cur, rfl, -, hg, hn, hc, hcs, ht⟩
  · exact ⟨none, 0, by rw [h0], ⟨rfl, .inl h0⟩, by omega, by simp [maxLen], fun _ => ⟨h0, rfl⟩, fun _ _ h => by cases h⟩
  · refine ⟨some ⟨g, 0, none⟩, cap, rfl, ⟨rfl, .inr ⟨g, 0, rfl, fun j p hp f hf => ?_⟩⟩, hn, hc, (fun h => by cases h), (fun b off h => by cases h; rfl)⟩
    have hj : j < L.length := (List.getElem?_eq_some_iff.1 hp).1
    rw [blk_cell hg]
    have h3 : (cur.toList.take (L.length * 5))[j * 5 + f]? = p.vs[f]? := by rw [ht]; exact flat_get L j f p hp hf
    rw [List.getElem?_take, if_pos (by omega)] at h3
    rw [Nat.zero_add]
    simpa using h3
/-- APPEND of events onto a slice of the call's own. -/
theorem wpList_appC {P : Program} {w : World} {ops : Array Oper} {rest : List Oper} {o : Oper} {a : Act} {Q : Exit → Act → World → Prop} (hgd : o.guard = none) (s x : Operand) (t : TypeId)
    (ho : o.op = .call { callee := .builtin .append, args := #[s, x], argTypes := #[t, t] })
    (i : TypeInfo) (z : Value) (bytes : Nat) (ht : P.underlying t = some (.slice 100)) (hi : P.info? 100 = some i) (hz : i.zero = some z)
    (hsize : i.size = 5) (hby : i.bytes = bytes) (hzs : z.cells.size = 5)
    (v : Value) (L : List Cl) (hs : a.eval s = v) (hown : OwnC w v L)
    (ad : Option Addr) (m c : Nat) (M : List Cl) (hx : a.eval x = .slice ad m c) (hnil : ad = none → m = 0 ∧ c = 0) (hsl : SlC w ad m M)
    (hbytes : (L.length + m) * bytes ≤ 140737488355328) (h63 : L.length + m ≤ maxLen)
    (h : ∀ v' w', OwnC w' v' (L ++ M) → Kept (fun k => v.ownBlock = some k) w w' → (v'.ownBlock = v.ownBlock ∨ v'.ownBlock = some w.heap.size) → wpList P ops Q rest (a.put o.dst v') w') : wpList P ops Q (o :: rest) a w := by
  refine wpList_app hgd s x t ho 100 i z 5 bytes ht hi hz hsize hby hzs (by omega) v L.length _ hs hown ad m c (flat M) hx hnil (by rw [flat_length, hsl.1]) ?_ (flat_one M) h63 hbytes fun v' w' h1 h2 h3 => h v' w' ?_ h2 h3
  · rintro y rfl j u hu
    rcases hsl with ⟨hl, h0 | ⟨b, off, hy, hc⟩⟩
    · have : M = [] := List.eq_nil_of_length_eq_zero (by omega)
      subst this
      cases hu
    · cases hy
      have hj : j < M.length * 5 := by rw [← flat_length]; exact (List.getElem?_eq_some_iff.1 hu).1
      have hq : j / 5 < M.length := by omega
      have hp : M[j / 5]? = some M[j / 5] := List.getElem?_eq_getElem hq
      have h1 := flat_get M (j / 5) (j % 5) _ hp (by omega)
      rw [show j / 5 * 5 + j % 5 = j by omega, hu] at h1
      have h2 := hc (j / 5) _ hp (j % 5) (by omega)
      rw [← h1, show off + j / 5 * 5 + j % 5 = off + j by omega] at h2
      have e : (⟨b, off, none⟩ : Addr).add j = ⟨b, off + j, none⟩ := by unfold Addr.add; split <;> simp_all
      rw [e, h2]
  · unfold OwnC
    rw [flat_append, List.length_append, hsl.1]
    exact h1
/-- The block behind a row. -/
theorem OwnC.blk {w : World} {v : Value} {L : List Cl} (h : OwnC w v L) (h0 : 0 < L.length) : ∃ g cap cur, v = .slice (some ⟨g, 0, none⟩) L.length cap ∧ w.heap[g]? = some (.cells cur 100 (0, 0)) ∧ L.length ≤ cap ∧ cap ≤ maxLen ∧ cur.toList.take (L.length * 5) = flat L := by
  obtain ⟨h1, h2⟩ := h
  rcases h2 with ⟨rfl, h3⟩ | ⟨g, cap, cur, rfl, -, hg, hn, hc, hcs, ht⟩
  · omega
  · exact ⟨g, cap, cur, rfl, hg, hn, hc, ht⟩
theorem take_set {α : Type} {l : List α} {n i : Nat} {x : α} : (l.set i x).take n = (l.take n).set i x := by rw [List.take_set]
theorem flat_set (L : List Cl) (j : Nat) (c : Cl) (hj : j < L.length) : (((((flat L).set (j * 5) (.int .i32 c.r)).set (j * 5 + 1) (.int .i64 c.k)).set (j * 5 + 2) (.int .i64 c.a.fg)).set (j * 5 + 3) (.int .i64 c.a.bg)).set (j * 5 + 4) (.int .i64 c.a.fl) = flat (L.set j c) := by
  refine List.ext_getElem? fun q => ?_
  have hl := flat_length L
  by_cases hq : q < L.length * 5
  · have hq5 : q / 5 < L.length := by omega
    by_cases h : q / 5 = j
    · have h2 := flat_get (L.set j c) j (q % 5) c (by simp [hj]) (by omega)
      rw [show j * 5 + q % 5 = q by omega] at h2
      rw [h2]
      have hm : q % 5 = 0 ∨ q % 5 = 1 ∨ q % 5 = 2 ∨ q % 5 = 3 ∨ q % 5 = 4 := by omega
      rcases hm with hm | hm | hm | hm | hm <;> rw [hm]
      · rw [List.getElem?_set_ne (by omega), List.getElem?_set_ne (by omega), List.getElem?_set_ne (by omega), List.getElem?_set_ne (by omega), show q = j * 5 by omega, List.getElem?_set_self (by omega)]; rfl
      · rw [List.getElem?_set_ne (by omega), List.getElem?_set_ne (by omega), List.getElem?_set_ne (by omega), show q = j * 5 + 1 by omega, List.getElem?_set_self (by simp; omega)]; rfl
      · rw [List.getElem?_set_ne (by omega), List.getElem?_set_ne (by omega), show q = j * 5 + 2 by omega, List.getElem?_set_self (by simp; omega)]; rfl
      · rw [List.getElem?_set_ne (by omega), show q = j * 5 + 3 by omega, List.getElem?_set_self (by simp; omega)]; rfl
      · rw [show q = j * 5 + 4 by omega, List.getElem?_set_self (by simp; omega)]; rfl
    · have h1 := flat_get L (q / 5) (q % 5) _ (List.getElem?_eq_getElem hq5) (by omega)
      have h2 := flat_get (L.set j c) (q / 5) (q % 5) L[q / 5] (by rw [List.getElem?_set_ne (by omega)]; exact List.getElem?_eq_getElem hq5) (by omega)
      rw [show q / 5 * 5 + q % 5 = q by omega] at h1 h2
      rw [List.getElem?_set_ne (by omega), List.getElem?_set_ne (by omega), List.getElem?_set_ne (by omega), List.getElem?_set_ne (by omega), List.getElem?_set_ne (by omega), h1, h2]
  · rw [List.getElem?_eq_none (by simp; omega), List.getElem?_eq_none (by rw [flat_length]; simp; omega)]
/-- A cell of a row of the call's own is stored. -/
theorem OwnC.store {w : World} {g n cap : Nat} {L : List Cl} (h : OwnC w (.slice (some ⟨g, 0, none⟩) n cap) L) {j : Nat} (hj : j < n) (c : Cl) :
    ∃ V1 V2 V3 V4 V5, w.setCell ⟨g, j * 5, none⟩ (.int .i32 c.r) = V1 ∧ V1.setCell ⟨g, j * 5 + 1, none⟩ (.int .i64 c.k) = V2 ∧ V2.setCell ⟨g, j * 5 + 2, none⟩ (.int .i64 c.a.fg) = V3 ∧ V3.setCell ⟨g, j * 5 + 3, none⟩ (.int .i64 c.a.bg) = V4 ∧ V4.setCell ⟨g, j * 5 + 4, none⟩ (.int .i64 c.a.fl) = V5 ∧
      (∃ x, w.cell? ⟨g, j * 5, none⟩ = some x) ∧ (∃ x, V1.cell? ⟨g, j * 5 + 1, none⟩ = some x) ∧ (∃ x, V2.cell? ⟨g, j * 5 + 2, none⟩ = some x) ∧ (∃ x, V3.cell? ⟨g, j * 5 + 3, none⟩ = some x) ∧ (∃ x, V4.cell? ⟨g, j * 5 + 4, none⟩ = some x) ∧ w.frozen? ⟨g, j * 5, none⟩ = false ∧ V1.frozen? ⟨g, j * 5 + 1, none⟩ = false ∧ V2.frozen? ⟨g, j * 5 + 2, none⟩ = false ∧ V3.frozen? ⟨g, j * 5 + 3, none⟩ = false ∧ V4.frozen? ⟨g, j * 5 + 4, none⟩ = false ∧
      OwnC V5 (.slice (some ⟨g, 0, none⟩) n cap) (L.set j c) ∧ Kept (fun i => i = g) w V5 := by
  obtain ⟨h1, h2⟩ := h
  rcases h2 with ⟨h3, -⟩ | ⟨g', cap', cur, h3, hb0, hg, hn, hcm, hcs, ht⟩
  · cases h3
  · cases h3
    have b1 := blk_set hg (j * 5) (.int .i32 c.r)
    have b2 := blk_set b1 (j * 5 + 1) (.int .i64 c.k)
    have b3 := blk_set b2 (j * 5 + 2) (.int .i64 c.a.fg)
    have b4 := blk_set b3 (j * 5 + 3) (.int .i64 c.a.bg)
    have b5 := blk_set b4 (j * 5 + 4) (.int .i64 c.a.fl)
    have hsz : L.length * 5 ≤ cur.size := by rw [hcs]; exact Nat.mul_le_mul_right 5 hn
    have ex : ∀ (w' : World) (C : Array Value), w'.heap[g]? = some (.cells C 100 (0, 0)) → ∀ {i : Nat}, i < C.size → ∃ x, w'.cell? ⟨g, i, none⟩ = some x := fun w' C h i hi => ⟨C[i], by rw [blk_cell h]; simp [hi]⟩
    refine ⟨_, _, _, _, _, rfl, rfl, rfl, rfl, rfl, ⟨cur[j * 5]'(by omega), by rw [blk_cell hg]; simp [show j * 5 < cur.size by omega]⟩, ex _ _ b1 (by simp; omega), ex _ _ b2 (by simp; omega), ex _ _ b3 (by simp; omega), ex _ _ b4 (by simp; omega), blk_free hg _, blk_free b1 _, blk_free b2 _, blk_free b3 _, blk_free b4 _, ?_, ?_⟩
    · refine ⟨by rw [flat_length], .inr ⟨g, cap, _, by rw [List.length_set], Nat.zero_le _, b5, by rw [List.length_set]; exact hn, hcm, by simpa using hcs, ?_⟩⟩
      simp only [Array.toList_setIfInBounds, List.take_set, ht]
      rw [List.length_set, ht]
      exact flat_set L j c hj
    · exact (((((Kept.refl (fun i => i = g) w).setCell (p := ⟨g, j * 5, none⟩) (.inl rfl) _).setCell (p := ⟨g, j * 5 + 1, none⟩) (.inl rfl) _).setCell (p := ⟨g, j * 5 + 2, none⟩) (.inl rfl) _).setCell (p := ⟨g, j * 5 + 3, none⟩) (.inl rfl) _).setCell (p := ⟨g, j * 5 + 4, none⟩) (.inl rfl) _
theorem slC_one {w : World} {b : Nat} {p : Cl} {t : TypeId} (h : w.heap[b]? = some (.cells p.cs t (0, 0))) : SlC w (some ⟨b, 0, none⟩) 1 [p] := by
  refine ⟨rfl, .inr ⟨b, 0, rfl, fun j q hq f hf => ?_⟩⟩
  rcases j with _ | j
  · simp at hq; subst hq
    have e : 0 + 0 * 5 + f = f := by omega
    rw [e, blk_cell h]
    show p.vs.toArray[f]? = _
    rw [List.getElem?_toArray]
  · simp at hq
theorem info100 : (Try.prog.info? 100).map (fun i => (i.zero, i.size, i.bytes)) = some (some (.agg #[.int .i32 0, .int .i64 0, .int .i64 0, .int .i64 0, .int .i64 0]), 5, 40) := by kernel_rfl
end Go.Proofs.Ytdjgmhbfohbenaa
namespace Go.Proofs.Ytdjgmhbfohbenaa
open Go.RowKit Go.Sort Pl
set_option linter.unusedVariables false
set_option linter.unusedSimpArgs false
def MadeC (w : World) (L : List Cl) (v : Value) (w' : World) : Prop := OwnC w' v L ∧ Kept (fun _ => False) w w' ∧ ∀ b, v.ownBlock = some b → w.heap.size ≤ b
def Nar (L : List Cl) : Prop := ∀ c ∈ L, c.k = 0
set_option maxRecDepth 100000 in
set_option maxHeartbeats 8000000 in
theorem blanks_any (n : Nat) (a : Look) (w : World) (hn : n ≤ 1000) : Calls Try.prog 56 #[.int .i64 n, lookV a] w fun e w' => ∃ v, e = .returned v ∧ MadeC w (List.replicate n ⟨0, 0, a⟩) v w' := by
  obtain ⟨fg, bg, fl⟩ := a
  unfold lookV
  obtain ⟨V, hV⟩ : ∃ V, w.alloc (.cells #[.int .i64 fg, .int .i64 bg, .int .i64 fl] 54) = V := ⟨_, rfl⟩
  have kV : Kept (fun _ => False) w V := by rw [← hV]; exact (Kept.refl _ _).alloc _
  have b0 : V.heap[w.heap.size]? = some (.cells #[.int .i64 fg, .int .i64 bg, .int .i64 fl] 54 (0, 0)) := by rw [← hV]; exact blk_new _ _
  obtain ⟨i0, hi, hz, hsz, hby⟩ := info_parts info100
  have HI := Lib.hid (And.intro hi (And.intro hz (And.intro hsz hby)))
  have H0 := Lib.hid (And.intro kV b0)
  have h63 : (9223372036854775807 : Nat) = maxLen := rfl
  clear kV b0 hi hz hsz hby
  go_enter Try.func56, Try.ntmps56
  go_wp2
  go_loopg [5, 7] n (fun gg g0 iv wr => ∃ (k : Nat) (gv : Value), gv = g0 ∧ n ≤ gg + k ∧ k ≤ n ∧ iv = .int .i64 (k : Int) ∧ OwnC wr gv (List.replicate k ⟨0, 0, ⟨fg, bg, fl⟩⟩) ∧ (∀ b, gv.ownBlock = some b → w.heap.size < b) ∧ Kept (fun _ => False) w wr ∧ wr.heap[w.heap.size]? = some (.cells #[.int .i64 fg, .int .i64 bg, .int .i64 fl] 54 (0, 0)))
  case atStart => exact ⟨0, _, rfl, by omega, by omega, rfl, OwnC.nil _, (fun b h => by cases h), H0.out.1, H0.out.2⟩
  case round =>
    obtain ⟨k, gv, rfl, hgg, hk, rfl, hog, hgb, hkr, hb⟩ := hrel
    by_cases hk1 : k < n
    · have g1 : decide (k < n) = true := decide_eq_true hk1
      have g1' : decide ((k : Int) < (n : Int)) = true := decide_eq_true (by omega)
      have wk : IntKind.i64.wrap ((k : Int) + 1) = (k : Int) + 1 := IntWalk.i64_in _ (by omega)
      obtain ⟨⟨x0, -⟩, ⟨x1, -⟩, x2, -⟩ := blk3 hb
      obtain ⟨W2, hW2⟩ : ∃ W2, wr.alloc (.cells #[.int .i32 0, .int .i64 0, .int .i64 fg, .int .i64 bg, .int .i64 fl] 100) = W2 := ⟨_, rfl⟩
      have k2 : Kept (fun _ => False) wr W2 := by rw [← hW2]; exact (Kept.refl _ _).alloc _
      have b2 : W2.heap[wr.heap.size]? = some (.cells (Cl.cs ⟨0, 0, ⟨fg, bg, fl⟩⟩) 100 (0, 0)) := by rw [← hW2]; exact blk_new _ _
      have HG := Lib.hid (And.intro hgb (And.intro hkr hb))
      have HA := Lib.hid (And.intro (hog.kept k2 (fun _ _ => id)) (And.intro (slC_one b2) (And.intro k2 k2.size)))
      obtain ⟨ga, gc, hge, -⟩ := hog.shape
      rw [List.length_replicate] at hge
      subst hge
      clear k2 b2 hog hgb hkr hb
      go_wp2_with (at_builtin; refine wpList_appC rfl (.tmp 9) (.tmp 12) 73 rfl i0 _ 40 Try.underlying73 HI.out.1 HI.out.2.1 HI.out.2.2.1 HI.out.2.2.2 rfl (.slice ga k gc) _ rfl HA.out.1 (some ⟨wr.heap.size, 0, none⟩) 1 1 [⟨0, 0, ⟨fg, bg, fl⟩⟩] rfl (fun h => by cases h) HA.out.2.1 (by rw [List.length_replicate]; omega) (by rw [List.length_replicate]; omega) ?_; intro v8 w8 ho8 hk8 hpr8; have H8 := Lib.hid (And.intro ho8 (And.intro hk8 hpr8)); clear ho8 hk8 hpr8)
      go_roundg (gk - 1)
      case rel =>
        refine ⟨k + 1, v8, rfl, by omega, by omega, by go_num, by rw [List.replicate_succ']; exact H8.out.1, fun b hb => ?_, (HG.out.2.1.then HA.out.2.2.1).trans (H8.out.2.1.mono fun x _ hx => Or.inr (Nat.le_of_lt (HG.out.1 x hx))), H8.out.2.1.blk (HA.out.2.2.1.blk HG.out.2.2 id) (fun h => Nat.lt_irrefl _ (HG.out.1 _ h))⟩
        rcases H8.out.2.2 with h | h
        · exact HG.out.1 b (by rw [← h]; exact hb)
        · rw [hb] at h; have h9 := Option.some.inj h; have h1 := lt_of_blk HG.out.2.2; have h2 := HA.out.2.2.2; omega
      case measure => omega
    · obtain rfl : k = n := by omega
      have g1 : decide (k < k) = false := decide_eq_false (by omega)
      have HE := Lib.hid (And.intro hog (And.intro hkr (fun b hb => Nat.le_of_lt (hgb b hb) : ∀ b, gv.ownBlock = some b → w.heap.size ≤ b)))
      clear hog hgb hkr hb
      go_wp2
      go_ret
      exact ⟨_, rfl, HE.out⟩
set_option maxRecDepth 100000 in
set_option maxHeartbeats 8000000 in
theorem newl_any (n : Nat) (a : Look) (w : World) (hn : n ≤ 1000) : Calls Try.prog 25 #[.int .i64 n, lookV a] w fun e w' => ∃ v, e = .returned v ∧ MadeC w (List.replicate n ⟨0, 0, a⟩) v w' := by
  have g1 : decide ((n : Int) < 0) = false := decide_eq_false (by omega)
  have g2 : decide (1000 < (n : Int)) = false := decide_eq_false (by omega)
  have g2' : decide (1000 < n) = false := decide_eq_false (by omega)
  obtain ⟨RES, hRES⟩ : ∃ R, List.replicate n (⟨0, 0, a⟩ : Cl) = R := ⟨_, rfl⟩
  have HB := Lib.hid (fun w => show Calls Try.prog 56 #[.int .i64 n, .agg #[.int .i64 a.fg, .int .i64 a.bg, .int .i64 a.fl]] w fun e w' => ∃ v, e = .returned v ∧ MadeC w RES v w' from by rw [← hRES]; exact blanks_any n a w hn)
  rw [hRES]
  obtain ⟨fg, bg, fl⟩ := a
  unfold lookV
  simp only at HB
  obtain ⟨V, hV⟩ : ∃ V, w.alloc (.cells #[.int .i64 fg, .int .i64 bg, .int .i64 fl] 54) = V := ⟨_, rfl⟩
  have kV : Kept (fun _ => False) w V := by rw [← hV]; exact (Kept.refl _ _).alloc _
  have b0 : V.heap[w.heap.size]? = some (.cells #[.int .i64 fg, .int .i64 bg, .int .i64 fl] 54 (0, 0)) := by rw [← hV]; exact blk_new _ _
  obtain ⟨⟨x0, -⟩, ⟨x1, -⟩, x2, -⟩ := blk3 b0
  have HK := Lib.hid kV
  clear kV b0 hRES hn
  go_enter Try.func25, Try.ntmps25
  go_wp2_with fail
  refine (HB.out _).mono ?_
  rintro e w2 ⟨v, rfl, ho, hk, hb⟩
  have HE := Lib.hid (show MadeC w RES v w2 from ⟨ho, HK.out.then hk, fun b h => Nat.le_trans HK.out.size (hb b h)⟩)
  clear ho hk hb
  go_wp2
  go_ret
  exact ⟨_, rfl, HE.out⟩
set_option maxRecDepth 100000 in
set_option maxHeartbeats 8000000 in
theorem clonec_any (x : Addr) (n cap : Nat) (L : List Cl) (w : World) (hs : SlC w (some x) n L) (hn : n ≤ 1000) : Calls Try.prog 73 #[.slice (some x) n cap] w fun e w' => ∃ v, e = .returned v ∧ MadeC w L v w' := by
  have qn := fun w => Lib.run_eql_slice_nil (P := Try.prog) w 73 100 (some x) n cap 0 0 Try.underlying73
  obtain ⟨i0, hi, hz, hsz, hby⟩ := info_parts info100
  have HI := Lib.hid (And.intro hi (And.intro hz (And.intro hsz hby)))
  have h63 : (9223372036854775807 : Nat) = maxLen := rfl
  obtain ⟨V, hV⟩ : ∃ V, w.alloc (.cells #[] 100) = V := ⟨_, rfl⟩
  have kV : Kept (fun _ => False) w V := by rw [← hV]; exact (Kept.refl _ _).alloc _
  have b0 : V.heap[w.heap.size]? = some (.cells #[] 100 (0, 0)) := by rw [← hV]; exact blk_new _ _
  have ho0 : OwnC V (.slice (some ⟨w.heap.size, 0, none⟩) 0 0) [] := ⟨by rfl, .inr ⟨w.heap.size, 0, #[], rfl, Nat.zero_le _, b0, Nat.le_refl _, by simp [maxLen], rfl, rfl⟩⟩
  have HS := Lib.hid (And.intro ho0 (And.intro (hs.kept kV (fun _ _ _ _ => id)) kV))
  clear hi hz hsz hby hs kV b0 ho0
  go_enter Try.func73, Try.ntmps73
  go_wp2_with (at_builtin; refine wpList_appC rfl (.tmp 5) (.tmp 6) 73 rfl i0 _ 40 Try.underlying73 HI.out.1 HI.out.2.1 HI.out.2.2.1 HI.out.2.2.2 rfl (.slice (some ⟨w.heap.size, 0, none⟩) 0 0) [] rfl HS.out.1 (some x) n cap L rfl (fun h => by cases h) HS.out.2.1 (by simp; omega) (by simp; omega) ?_; intro v8 w8 ho8 hk8 hpr8; have H8 := Lib.hid (And.intro ho8 (And.intro hk8 hpr8)); clear ho8 hk8 hpr8)
  go_ret
  refine ⟨v8, rfl, H8.out.1, HS.out.2.2.trans (H8.out.2.1.mono fun i _ hi => Or.inr (by cases hi; exact Nat.le_refl _)), fun b hb => ?_⟩
  rcases H8.out.2.2 with h | h
  · rw [h] at hb; cases hb; exact Nat.le_refl _
  · rw [hb] at h; have h9 := Option.some.inj h; have := HS.out.2.2.size; omega
set_option maxRecDepth 100000 in
set_option maxHeartbeats 8000000 in
theorem fits_any (b off n cap i : Nat) (L : List Cl) (w : World) (hs : SlC w (some ⟨b, off, none⟩) n L) (hn : n ≤ 1000) (hi : i < n) (hL : Nar L) : Calls Try.prog 74 #[.slice (some ⟨b, off, none⟩) n cap, .int .i64 i] w fun e w' => e = .returned (.bool true) ∧ w = w' := by
  obtain ⟨h1, h2⟩ := hs
  obtain ⟨b', off', he, hc⟩ := h2.resolve_left (by omega)
  cases he
  obtain ⟨c, hcc⟩ : ∃ c, L[i]? = some c := ⟨_, List.getElem?_eq_getElem (by omega)⟩
  have hk := hL c (List.mem_of_getElem? hcc)
  have x1 := hc i c hcc 1 (by omega)
  unfold Cl.vs at x1
  simp only [List.getElem?_cons_zero, List.getElem?_cons_succ, hk] at x1
  have i0 : (0 : Int) ≤ (i : Int) := by omega
  have i1 : (i : Int) < (n : Int) := by omega
  clear hc hcc hk h1 h2 hL
  go_enter Try.func74, Try.ntmps74
  go_wp2
  go_ret
  exact ⟨rfl, rfl⟩
set_option maxRecDepth 100000 in
set_option maxHeartbeats 8000000 in
theorem mend_any (b off n cap : Nat) (L : List Cl) (w : World) (hs : SlC w (some ⟨b, off, none⟩) n L) (hn : n ≤ 1000) (hbw : b < w.heap.size) (hL : Nar L) : Calls Try.prog 59 #[.slice (some ⟨b, off, none⟩) n cap] w fun e w' => ∃ v, e = .returned v ∧ MadeC w L v w' := by
  have hLl := hs.1
  have HC := Lib.hid (clonec_any ⟨b, off, none⟩ n cap L w hs hn)
  have HF := Lib.hid (fun (i : Nat) (hi : i < n) (w' : World) (hk : Kept (fun _ => False) w w') => fits_any b off n cap i L w' (hs.kept hk (fun _ _ _ _ => id)) hn hi hL)
  have HS := Lib.hid (And.intro hs (And.intro hL hLl))
  clear hs hL hLl
  go_enter Try.func59, Try.ntmps59
  go_wp2_with fail
  refine HC.out.mono ?_
  rintro e w1 ⟨v, rfl, ho, hk1, hb1⟩
  have H1 := Lib.hid (And.intro ho (And.intro hk1 hb1))
  clear ho hk1 hb1
  go_wp2
  go_loopg [4, 5, 10, 15, 33, 44] n (fun gg _ _ iv _ _ _ wr => ∃ k : Nat, n ≤ gg + k ∧ k ≤ n ∧ iv = .int .i64 (k : Int) ∧ Kept (fun _ => False) w1 wr)
  case atStart => exact ⟨0, by omega, by omega, rfl, Kept.refl _ _⟩
  case round =>
    obtain ⟨k, hgg, hk, rfl, hkr⟩ := hrel
    by_cases hk1 : k < n
    · have g1 : decide (k < n) = true := decide_eq_true hk1
      have g1' : decide ((k : Int) < (n : Int)) = true := decide_eq_true (by omega)
      have wk : IntKind.i64.wrap ((k : Int) + 1) = (k : Int) + 1 := IntWalk.i64_in _ (by omega)
      have i0 : (0 : Int) ≤ (k : Int) := by omega
      have i1 : (k : Int) < (n : Int) := by omega
      have kw := H1.out.2.1.then hkr
      obtain ⟨b', off', he, hc⟩ := (HS.out.1.kept kw (fun _ _ _ _ => id)).2.resolve_left (by omega)
      cases he
      obtain ⟨c, hcc⟩ : ∃ c, L[k]? = some c := ⟨_, List.getElem?_eq_getElem (by have := HS.out.2.2; omega)⟩
      have hkk := HS.out.2.1 c (List.mem_of_getElem? hcc)
      have y0 := hc k c hcc 0 (by omega)
      have y1 := hc k c hcc 1 (by omega)
      have y2 := hc k c hcc 2 (by omega)
      have y3 := hc k c hcc 3 (by omega)
      have y4 := hc k c hcc 4 (by omega)
      rw [Nat.add_zero] at y0
      obtain ⟨cr, ck, fg, bg, fl⟩ := c
      unfold Cl.vs at y0 y1 y2 y3 y4
      simp only [List.getElem?_cons_zero, List.getElem?_cons_succ] at y0 y1 y2 y3 y4 hkk
      subst hkk
      obtain ⟨W2, hW2⟩ : ∃ W2, wr.alloc (.cells #[.int .i32 cr, .int .i64 0, .int .i64 fg, .int .i64 bg, .int .i64 fl] 100) = W2 := ⟨_, rfl⟩
      have k2 : Kept (fun _ => False) wr W2 := by rw [← hW2]; exact (Kept.refl _ _).alloc _
      have b2 : W2.heap[wr.heap.size]? = some (.cells #[.int .i32 cr, .int .i64 0, .int .i64 fg, .int .i64 bg, .int .i64 fl] 100 (0, 0)) := by rw [← hW2]; exact blk_new _ _
      obtain ⟨z0, z1, z2, z3, z4⟩ := blk5 b2
      have HFI := Lib.hid (HF.out k hk1 W2 (kw.then k2))
      have HK2 := Lib.hid (hkr.then k2)
      clear hc hcc kw hkr k2 b2
      go_wp2_with fail
      refine HFI.out.mono ?_
      rintro e w' ⟨rfl, rfl⟩
      go_wp2
      go_roundg (gk - 1)
      case rel => exact ⟨k + 1, by omega, by omega, by go_num, HK2.out⟩
      case measure => omega
    · obtain rfl : k = n := by omega
      have g1 : decide (k < k) = false := decide_eq_false (by omega)
      have HE := Lib.hid (show MadeC w L v wr from ⟨H1.out.1.kept hkr (fun _ _ => id), H1.out.2.1.then hkr, H1.out.2.2⟩)
      clear hkr
      go_wp2
      go_ret
      exact ⟨_, rfl, HE.out⟩
set_option maxRecDepth 100000 in
set_option maxHeartbeats 8000000 in
theorem halves_any (b off n cap : Nat) (f t lo : Int) (L : List Cl) (w : World) (hs : SlC w (some ⟨b, off, none⟩) n L) (hn : n ≤ 1000) (hf : f - 1 = lo) (hlo : -1 ≤ lo ∧ lo < n) (ht : 0 ≤ t ∧ t ≤ n) (hL : Nar L) : Calls Try.prog 60 #[.slice (some ⟨b, off, none⟩) n cap, .int .i64 f, .int .i64 t] w fun e w' => e = .returned (.slice (some ⟨b, off, none⟩) n cap) ∧ Kept (fun _ => False) w w' := by
  have HF := Lib.hid (fun (i : Nat) (hi : i < n) (w' : World) (hk : Kept (fun _ => False) w w') => fits_any b off n cap i L w' (hs.kept hk (fun _ _ _ _ => id)) hn hi hL)
  have w1 : IntKind.i64.wrap lo = lo := IntWalk.i64_in _ (by omega)
  obtain ⟨V, hV⟩ : ∃ V, w.alloc (.cells #[.int .i64 lo, .int .i64 t] 3) = V := ⟨_, rfl⟩
  have kV : Kept (fun _ => False) w V := by rw [← hV]; exact (Kept.refl _ _).alloc _
  have b0 : V.heap[w.heap.size]? = some (.cells #[.int .i64 lo, .int .i64 t] 3 (0, 0)) := by rw [← hV]; exact blk_new _ _
  have HK := Lib.hid kV
  obtain ⟨⟨x0, -⟩, x1, -⟩ := blk2 b0
  clear hs hL kV b0
  by_cases c1 : 0 ≤ lo
  · obtain ⟨j, rfl⟩ : ∃ j : Nat, lo = (j : Int) := ⟨lo.toNat, by omega⟩
    have g1 : decide ((0 : Int) ≤ (j : Int)) = true := decide_eq_true (by omega)
    have g2 : decide ((j : Int) < (n : Int)) = true := decide_eq_true (by omega)
    have g2' : decide (j < n) = true := decide_eq_true (by omega)
    by_cases c2 : t < n
    · obtain ⟨m, rfl⟩ : ∃ m : Nat, t = (m : Int) := ⟨t.toNat, by omega⟩
      have g3 : decide ((0 : Int) ≤ (m : Int)) = true := decide_eq_true (by omega)
      have g4 : decide ((m : Int) < (n : Int)) = true := decide_eq_true (by omega)
      have g4' : decide (m < n) = true := decide_eq_true (by omega)
      go_enter Try.func60, Try.ntmps60
      go_wp2
      refine wp_loop_rounds 3 ?_
      rw [rounds_succ]
      go_wp2_with fail
      refine (HF.out j (by omega) _ HK.out).mono ?_
      rintro e w' ⟨rfl, rfl⟩
      go_wp2
      rw [rounds_succ]
      go_wp2_with fail
      refine (HF.out m (by omega) _ HK.out).mono ?_
      rintro e w' ⟨rfl, rfl⟩
      go_wp2
      rw [rounds_succ]
      go_wp2
      go_ret
      exact ⟨rfl, HK.out⟩
    · have g3 : decide (0 ≤ t) = true := decide_eq_true (by omega)
      have g4 : decide (t < (n : Int)) = false := decide_eq_false (by omega)
      go_enter Try.func60, Try.ntmps60
      go_wp2
      refine wp_loop_rounds 3 ?_
      rw [rounds_succ]
      go_wp2_with fail
      refine (HF.out j (by omega) _ HK.out).mono ?_
      rintro e w' ⟨rfl, rfl⟩
      go_wp2
      rw [rounds_succ]
      go_wp2
      rw [rounds_succ]
      go_wp2
      go_ret
      exact ⟨rfl, HK.out⟩
  · have g1 : decide (0 ≤ lo) = false := decide_eq_false (by omega)
    by_cases c2 : t < n
    · obtain ⟨m, rfl⟩ : ∃ m : Nat, t = (m : Int) := ⟨t.toNat, by omega⟩
      have g3 : decide ((0 : Int) ≤ (m : Int)) = true := decide_eq_true (by omega)
      have g4 : decide ((m : Int) < (n : Int)) = true := decide_eq_true (by omega)
      have g4' : decide (m < n) = true := decide_eq_true (by omega)
      go_enter Try.func60, Try.ntmps60
      go_wp2
      refine wp_loop_rounds 3 ?_
      rw [rounds_succ]
      go_wp2
      rw [rounds_succ]
      go_wp2_with fail
      refine (HF.out m (by omega) _ HK.out).mono ?_
      rintro e w' ⟨rfl, rfl⟩
      go_wp2
      rw [rounds_succ]
      go_wp2
      go_ret
      exact ⟨rfl, HK.out⟩
    · have g3 : decide (0 ≤ t) = true := decide_eq_true (by omega)
      have g4 : decide (t < (n : Int)) = false := decide_eq_false (by omega)
      go_enter Try.func60, Try.ntmps60
      go_wp2
      refine wp_loop_rounds 3 ?_
      rw [rounds_succ]
      go_wp2
      rw [rounds_succ]
      go_wp2
      rw [rounds_succ]
      go_wp2
      go_ret
      exact ⟨rfl, HK.out⟩
theorem nar_set {L : List Cl} (h : Nar L) (j : Nat) {c : Cl} (hc : c.k = 0) : Nar (L.set j c) := by
  intro x hx
  rcases List.mem_or_eq_of_mem_set hx with h1 | h1
  · exact h x h1
  · rw [h1]; exact hc
set_option maxRecDepth 100000 in
set_option maxHeartbeats 8000000 in
theorem putl_any (b off n cap k : Nat) (r : Int) (a : Look) (L : List Cl) (w : World) (hs : SlC w (some ⟨b, off, none⟩) n L) (hn : n ≤ 1000) (hk : k < n) (hbw : b < w.heap.size) (hL : Nar L) :
    Calls Try.prog 28 #[.slice (some ⟨b, off, none⟩) n cap, .int .i64 k, .int .i32 r, .int .i64 1, lookV a] w fun e w' => ∃ v, e = .returned (.tuple #[v, .bool true]) ∧ MadeC w (L.set k ⟨r, 0, a⟩) v w' := by
  obtain ⟨fg, bg, fl⟩ := a
  unfold lookV
  have hLl := hs.1
  obtain ⟨V, hV⟩ : ∃ V, w.alloc (.cells #[.int .i64 fg, .int .i64 bg, .int .i64 fl] 54) = V := ⟨_, rfl⟩
  have kV : Kept (fun _ => False) w V := by rw [← hV]; exact (Kept.refl _ _).alloc _
  have b0 : V.heap[w.heap.size]? = some (.cells #[.int .i64 fg, .int .i64 bg, .int .i64 fl] 54 (0, 0)) := by rw [← hV]; exact blk_new _ _
  have HM := Lib.hid (mend_any b off n cap L V (hs.kept kV (fun _ _ _ _ => id)) hn (Nat.lt_of_lt_of_le hbw kV.size) hL)
  have H0 := Lib.hid (And.intro kV b0)
  have HL := Lib.hid (And.intro hL hLl)
  have g1 : decide ((k : Int) < 0) = false := decide_eq_false (by omega)
  have u1 : IntKind.i64.wrap ((n : Int) - 1) = (n : Int) - 1 := IntWalk.i64_in _ (by omega)
  have g2 : decide ((n : Int) - 1 < (k : Int)) = false := decide_eq_false (by omega)
  have k0 : (0 : Int) ≤ (k : Int) := by omega
  have k1 : (k : Int) < (n : Int) := by omega
  have u2 : IntKind.i64.wrap ((k : Int) + 1) = (k : Int) + 1 := IntWalk.i64_in _ (by omega)
  clear kV b0 hs hL hLl hbw
  go_enter Try.func28, Try.ntmps28
  go_wp2_with fail
  refine HM.out.mono ?_
  rintro e w1 ⟨v, rfl, ho, hk1, hb1⟩
  obtain ⟨g, cv, cur, hge, -⟩ := ho.blk (by have := HL.out.2; omega)
  rw [HL.out.2] at hge
  subst hge
  obtain ⟨V1, V2, V3, V4, V5, e1, e2, e3, e4, e5, ⟨x0, y0⟩, ⟨x1, y1⟩, ⟨x2, y2⟩, ⟨x3, y3⟩, ⟨x4, y4⟩, f0, f1, f2, f3, f4, ho5, hk5⟩ := ho.store hk ⟨r, 0, ⟨fg, bg, fl⟩⟩
  simp only at e1 e2 e3 e4 e5
  have hg5 := hk5
  obtain ⟨⟨d0, -⟩, ⟨d1, -⟩, d2, -⟩ := blk3 (hk1.blk H0.out.2 id)
  have hgw : w.heap.size + 1 ≤ g := by have h1 := hb1 g rfl; have h2 := lt_of_blk H0.out.2; omega
  have HH := Lib.hid (fun (f t lo : Int) (hf : f - 1 = lo) (hlo : -1 ≤ lo ∧ lo < n) (ht : 0 ≤ t ∧ t ≤ n) => halves_any g 0 n cv f t lo (L.set k ⟨r, 0, ⟨fg, bg, fl⟩⟩) V5 (by
    obtain ⟨a9, c9, hv9, hs9, -⟩ := ho5.shape
    rw [List.length_set, HL.out.2] at hv9 hs9
    cases hv9
    exact hs9) hn hf hlo ht (nar_set HL.out.1 k rfl))
  have HE := Lib.hid (show MadeC w (L.set k ⟨r, 0, ⟨fg, bg, fl⟩⟩) (.slice (some ⟨g, 0, none⟩) n cv) V5 from ⟨ho5, (H0.out.1.then hk1).trans (hk5.mono fun i _ hi => Or.inr (by have h9 : i = g := hi; omega)), fun b hb => by have h8 : g = b := (by cases hb; rfl); omega⟩)
  clear ho hb1 hk1 ho5 hk5 hg5 hgw
  go_wp2_with fail
  refine (HH.out k ((k : Int) + 1) ((k : Int) - 1) rfl (by omega) (by omega)).mono ?_
  rintro e w6 ⟨rfl, hk6⟩
  have HE6 := Lib.hid (show MadeC w (L.set k ⟨r, 0, ⟨fg, bg, fl⟩⟩) (.slice (some ⟨g, 0, none⟩) n cv) w6 from ⟨HE.out.1.kept hk6 (fun _ _ => id), HE.out.2.1.then hk6, HE.out.2.2⟩)
  clear hk6
  go_wp2
  exact bodyPost_ret (v := .tuple #[.slice (some ⟨g, 0, none⟩) n cv, .bool true]) (by simp [results, Try.results28, go_sem]) rfl ⟨_, rfl, HE6.out⟩
end Go.Proofs.Ytdjgmhbfohbenaa
namespace Go.Proofs.Ytdjgmhbfohbenaa
open Go.RowKit Go.Sort Pl
set_option linter.unusedVariables false
set_option linter.unusedSimpArgs false
section
open Go.ChangeShapes Go.WideShapes Go.ChangeAt Go.Joins Go.Deep
section
variable {H : Type} {enc : TypeId × Value → H} {P : Program} {w : World} {base : Nat} {spare : Nat → Bool} {held : Bool}
theorem open_slice_fields {t e : TypeId} {fs : Array Field} {fuel : Nat} {cs : List Value} {x : DataW H × List MemPlace} (ht : P.underlying t = some (.slice e)) (he : P.underlying e = some (.struct fs))
    (hone : oneCellFields P fs = true) (hC : P.cellsOf e = fs.size) (h : DataW.trod enc P w base spare held fuel t cs = some x) :
    (cs = [.slice none 0 0] ∧ x = (.nil, [])) ∨
    ∃ (a : Addr) (len cap m : Nat) (D : Nat → DataW H) (Pl : Nat → List MemPlace), cs = [.slice (some a) len cap] ∧ base ≤ a.block ∧ len ≤ cap ∧ cap ≤ maxLen ∧ m = (if spare a.block then cap else len) ∧
      x = (.slice ((List.range len).map D) ((List.range (m - len)).map fun j => D (len + j)), MemPlace.row a (m * fs.size) ++ (List.range m).flatMap Pl) ∧
      ∀ i, i < m → ∃ (ys : List (DataW H × List MemPlace)) (n : Nat), D i = .agg (ys.map (·.1)) ∧ Pl i = ys.flatMap (·.2) ∧ ys.length = fs.size ∧
        ∀ (j : Nat) (f : Field), fs[j]? = some f → ∃ (v : Value) (y : DataW H × List MemPlace), w.cell? (a.add (i * fs.size + j)) = some v ∧ ys[j]? = some y ∧ DataW.trod enc P w base spare held n f.type [v] = some y := by
  rcases open_slice ht h with h0 | ⟨a, len, cap, m, n, D, Pl, hcs, hb, hl, hm, hmm, hx, hi⟩
  · exact .inl h0
  · refine .inr ⟨a, len, cap, m, D, Pl, hcs, hb, hl, hm, hmm, by rw [hC] at hx; exact hx, fun i him => ?_⟩
    obtain ⟨cs', hc, ht'⟩ := hi i him
    rw [hC] at hc
    obtain ⟨ys, n', hn', hy, hlen, hyl, hf⟩ := DataW.trod_struct he ht'
    obtain ⟨_, hcl, hat⟩ := World.cells?_some hc
    simp only [Prod.mk.injEq] at hy
    refine ⟨ys, n', hy.1, hy.2, hyl, fun j f hj => ?_⟩
    obtain ⟨ho, hk⟩ := hone_of hone j f hj
    have hjl : j < fs.size := (Array.getElem?_eq_some_iff.1 hj).1
    have hcell := hat j hjl
    have hv : cs'[j]? = some (cs'[j]'(by omega)) := List.getElem?_eq_getElem (by omega)
    have h1 := hf j f hj
    rw [ho, hk] at h1
    have hone' : (cs'.drop j).take 1 = [cs'[j]'(by omega)] := by
      rw [List.drop_eq_getElem_cons (by omega)]
      rfl
    rw [hone'] at h1
    have hys : ys[j]? = some (ys[j]'(by omega)) := List.getElem?_eq_getElem (by omega)
    refine ⟨_, _, ?_, hys, h1.trans hys⟩
    rw [← Go.Deep.add_add, hcell, hv]
end
end
/-- A slice of attributes as it comes in. -/
def IsLooks (w : World) (a : Option Addr) (len : Nat) (R : Nat → Look) : Prop :=
  len = 0 ∨ ∃ b off, a = some ⟨b, off, none⟩ ∧ b < w.heap.size ∧ ∀ i, i < len → w.cell? ⟨b, off + i * 3, none⟩ = some (.int .i64 (R i).fg) ∧ w.cell? ⟨b, off + (i * 3 + 1), none⟩ = some (.int .i64 (R i).bg) ∧ w.cell? ⟨b, off + (i * 3 + 2), none⟩ = some (.int .i64 (R i).fl)
section
open Go.ChangeShapes Go.WideShapes Go.ChangeAt Go.Joins Go.Deep
variable {H : Type} {enc : TypeId × Value → H} {P : Program} {W : World} {r : Reach} {b0 : Nat} {t e e1 : TypeId} {v : Value} {d : DataW H} {p : List MemPlace}
theorem o_looks {f0 f1 f2 : Field} (ht : P.underlying t = some (.slice e)) (he : P.underlying e = some (.struct #[f0, f1, f2])) (hone : oneCellFields P #[f0, f1, f2] = true) (ce : P.cellsOf e = 3)
    (u0 : P.underlying f0.type = some (.int .i64)) (u1 : P.underlying f1.type = some (.int .i64)) (u2 : P.underlying f2.type = some (.int .i64))
    (hv : Value.okWide P W r b0 t v) (h : DataW.Trod enc P W 0 (fun _ => true) true t v d p) :
    ∃ a len cap R, v = .slice a len cap ∧ IsLooks W a len R ∧ len ≤ cap ∧ cap ≤ maxLen := by
  obtain ⟨a0, len0, cap0, rfl⟩ := okWide_slice ht hv
  obtain ⟨fuel, hf⟩ := h
  rcases open_slice_fields ht he hone ce hf with ⟨hcs, -⟩ | ⟨x, len, cap, m, D, Pl, hcs, -, hl, hm, hmm, -, hall⟩
  · simp [Value.cells] at hcs
    obtain ⟨rfl, rfl, rfl⟩ := hcs
    exact ⟨_, _, _, fun _ => ⟨0, 0, 0⟩, rfl, .inl rfl, Nat.le_refl _, by simp [maxLen]⟩
  · simp [Value.cells] at hcs
    obtain ⟨rfl, rfl, rfl⟩ := hcs
    simp only [if_true] at hmm
    have each : ∀ i, i < m → ∃ q : Look, W.cell? (x.add (i * 3)) = some (.int .i64 q.fg) ∧ W.cell? (x.add (i * 3 + 1)) = some (.int .i64 q.bg) ∧ W.cell? (x.add (i * 3 + 2)) = some (.int .i64 q.fl) := by
      intro i hi
      obtain ⟨ys, n, -, -, -, hfs⟩ := hall i hi
      obtain ⟨v0, y0, c0, -, t0⟩ := hfs 0 f0 rfl
      obtain ⟨v1, y1, c1, -, t1⟩ := hfs 1 f1 rfl
      obtain ⟨v2, y2, c2, -, t2⟩ := hfs 2 f2 rfl
      obtain ⟨z0, e0, -, w0⟩ := DataW.trod_int u0 t0
      obtain ⟨z1, e1, -, w1⟩ := DataW.trod_int u1 t1
      obtain ⟨z2, e2, -, w2⟩ := DataW.trod_int u2 t2
      simp at e0 e1 e2
      subst e0 e1 e2
      exact ⟨⟨z0, z1, z2⟩, by simpa using c0, by simpa using c1, by simpa using c2⟩
    obtain ⟨q, hq⟩ : ∃ q : Nat → Look, ∀ i, i < m → W.cell? (x.add (i * 3)) = some (.int .i64 (q i).fg) ∧ W.cell? (x.add (i * 3 + 1)) = some (.int .i64 (q i).bg) ∧ W.cell? (x.add (i * 3 + 2)) = some (.int .i64 (q i).fl) := by
      refine ⟨fun i => if h : i < m then (each i h).choose else ⟨0, 0, 0⟩, fun i hi => ?_⟩
      simp only [hi, dif_pos]
      exact (each i hi).choose_spec
    refine ⟨_, _, _, q, rfl, ?_, hl, hm⟩
    by_cases h0 : len0 = 0
    · exact .inl h0
    right
    obtain ⟨b, off, spot⟩ := x
    have h1 := (hq 0 (by omega)).1
    have hs : spot = none := by simpa [Addr.add] using World.cell?_spot h1
    subst hs
    refine ⟨b, off, rfl, lt_of_cell (by simpa [Addr.add] using h1), fun i hi => ?_⟩
    have ea : ∀ j, (⟨b, off, none⟩ : Addr).add j = ⟨b, off + j, none⟩ := fun j => by unfold Addr.add; split <;> simp_all
    obtain ⟨g0, g1, g2⟩ := hq i (by omega)
    rw [ea] at g0 g1 g2
    exact ⟨g0, g1, g2⟩
end
/-- The cell number n of a text. -/
def txtC (l : List Int) (R : Nat → Look) (la n : Nat) : Cl := if n < l.length ∧ 0 < l.getD n 0 then ⟨l.getD n 0, 0, R (n % la)⟩ else ⟨0, 0, ⟨0, 0, 0⟩⟩
/-- Row i while it is laid: columns ahead of k. -/
def txtK (l : List Int) (R : Nat → Look) (la cols i k : Nat) : List Cl := (List.range cols).map fun q => if q < k then txtC l R la (i * cols + q) else ⟨0, 0, ⟨0, 0, 0⟩⟩
theorem txtK_len (l : List Int) (R : Nat → Look) (la cols i k : Nat) : (txtK l R la cols i k).length = cols := by simp [txtK]
theorem txtK_0 (l : List Int) (R : Nat → Look) (la cols i : Nat) : List.replicate cols (⟨0, 0, ⟨0, 0, 0⟩⟩ : Cl) = txtK l R la cols i 0 := by
  refine List.ext_getElem (by simp [txtK]) (fun n h1 h2 => by simp [txtK])
theorem txtK_set {l : List Int} {R : Nat → Look} {la cols i k : Nat} (hk : k < cols) : (txtK l R la cols i k).set k (txtC l R la (i * cols + k)) = txtK l R la cols i (k + 1) := by
  refine List.ext_getElem (by simp [txtK]) (fun n h1 h2 => ?_)
  rw [List.getElem_set]
  simp only [txtK, List.getElem_map, List.getElem_range]
  by_cases h : k = n
  · subst h; rw [if_pos rfl, if_pos (by omega)]
  · rw [if_neg h]
    by_cases h3 : n < k
    · rw [if_pos h3, if_pos (by omega)]
    · rw [if_neg h3, if_neg (by omega)]
theorem txtK_skip {l : List Int} {R : Nat → Look} {la cols i k : Nat} (hk : k < cols) (hc : txtC l R la (i * cols + k) = ⟨0, 0, ⟨0, 0, 0⟩⟩) : txtK l R la cols i k = txtK l R la cols i (k + 1) := by
  refine List.ext_getElem (by simp [txtK]) (fun n h1 h2 => ?_)
  simp only [txtK, List.getElem_map, List.getElem_range]
  by_cases h : k = n
  · subst h; rw [if_neg (by omega), if_pos (by omega), hc]
  · by_cases h3 : n < k
    · rw [if_pos h3, if_pos (by omega)]
    · rw [if_neg h3, if_neg (by omega)]
theorem txtC_k (l : List Int) (R : Nat → Look) (la n : Nat) : (txtC l R la n).k = 0 := by unfold txtC; split <;> rfl
theorem txtK_nar (l : List Int) (R : Nat → Look) (la cols i k : Nat) : Nar (txtK l R la cols i k) := by
  intro c hc
  unfold txtK at hc
  obtain ⟨q, -, rfl⟩ := List.mem_map.1 hc
  split
  · exact txtC_k ..
  · rfl
def txtL (l : List Int) (R : Nat → Look) (la cols rows : Nat) : List (List Cl) := (List.range rows).map fun i => txtK l R la cols i cols
theorem txtL_cell {l : List Int} {R : Nat → Look} {la cols rows i k : Nat} (hi : i < rows) (hk : k < cols) : cellS (txtL l R la cols rows) i k = txtC l R la (i * cols + k) := by
  unfold cellS txtL txtK
  simp [hi, hk]
theorem txtL_k0 (l : List Int) (R : Nat → Look) (la cols rows i k : Nat) : (cellS (txtL l R la cols rows) i k).k = 0 := by
  by_cases hi : i < rows
  · by_cases hk : k < cols
    · rw [txtL_cell hi hk]; exact txtC_k ..
    · unfold cellS txtL txtK; simp [hi, hk, cl0]
  · unfold cellS txtL txtK; simp [hi, cl0]
theorem txtC_r {l : List Int} (hl : ∀ x ∈ l, -2147483648 ≤ x ∧ x ≤ 2147483647) (R : Nat → Look) (la n : Nat) : -2147483648 ≤ (txtC l R la n).r ∧ (txtC l R la n).r ≤ 2147483647 := by
  unfold txtC
  split
  · rename_i h
    have h1 : l[n]? = some l[n] := List.getElem?_eq_getElem h.1
    have h2 := hl l[n] (List.getElem_mem h.1)
    rw [List.getD_eq_getElem?_getD, h1]
    exact h2
  · simp
theorem txtL_r {l : List Int} (hl : ∀ x ∈ l, -2147483648 ≤ x ∧ x ≤ 2147483647) (R : Nat → Look) (la cols rows i k : Nat) : -2147483648 ≤ (cellS (txtL l R la cols rows) i k).r ∧ (cellS (txtL l R la cols rows) i k).r ≤ 2147483647 := by
  by_cases hi : i < rows
  · by_cases hk : k < cols
    · rw [txtL_cell hi hk]; exact txtC_r hl ..
    · unfold cellS txtL txtK; simp [hi, hk, cl0]
  · unfold cellS txtL txtK; simp [hi, cl0]
/-- A glyph by itself, byte by byte. -/
theorem gly_get {W H : Nat} {c : Cl} {j : Nat} (hw : 1 ≤ W) (hh : 1 ≤ H) (hj : j < 4 * (W * H)) (hz : c.r = 0 → c.a = ⟨0, 0, 0⟩) : (glyP W H c.r c.a).getD j 0 = glyB W H c ((j / 4 % W : Nat) : Int) ((j / 4 / W : Nat) : Int) (j % 4) (bakB c (j % 4)) := by
  unfold glyP
  rw [box_get (W := W) (ox := 0) (oy := 0) (by omega) (by omega) (fun x y bw bh c P => by rw [layL_get hj, Int.zero_add, Int.zero_add]) (inR_whole hj).1 (inR_whole hj).2.1 (inR_whole hj).2.2.1 (inR_whole hj).2.2.2]
  rw [layL_get hj, if_pos (inR_whole hj), Int.sub_zero, Int.sub_zero]
  unfold glyB bakB
  by_cases h : c.r = 0
  · rw [if_pos h]
    have ha := hz h
    have h8 : hasB c.a.fl 8 = false := by rw [ha]; rfl
    have h128 : hasB c.a.fl 128 = false := by rw [ha]; rfl
    rw [kind_out (by unfold lineB; rw [h8, h128]; rintro (⟨q, -⟩ | ⟨q, -⟩) <;> cases q) (.inl (by omega)), if_neg (show ¬ ((0 : Int) = 1) by decide), if_neg (show ¬ ((0 : Int) = 2) by decide)]
  · rw [if_neg h]
/-- Each cell's part of the picture is its glyph. -/
theorem text_cut {s : Sc} {ls : List (List Cl)} {W H R C : Nat} (hcw : 0 < s.cw) (hch : 0 < s.ch) (hW : W = s.cols * s.cw) (hH : H = s.rows * s.ch) (hk : ∀ row col, (cellS ls row col).k = 0) (hR : R < s.rows) (hC : C < s.cols) (hz : (cellS ls R C).r = 0 → (cellS ls R C).a = ⟨0, 0, 0⟩)
    (hW2 : W ≤ 16384) (hH2 : H ≤ 16384) (P : List Int) :
    cutM W H ((C * s.cw : Nat) : Int) ((R * s.ch : Nat) : Int) s.cw s.ch (eachF (glsF s ls W H) s.cols s.rows (eachF (groF s ls W H) s.cols s.rows P)) = (s.cw, s.ch, glyP s.cw s.ch (cellS ls R C).r (cellS ls R C).a) := by
  have hx : C * s.cw + s.cw ≤ W := by rw [hW, ← Nat.succ_mul]; exact Nat.mul_le_mul_right _ hC
  have hy : R * s.ch + s.ch ≤ H := by rw [hH, ← Nat.succ_mul]; exact Nat.mul_le_mul_right _ hR
  obtain ⟨x0, hx0⟩ : ∃ x, C * s.cw = x := ⟨_, rfl⟩
  obtain ⟨y0, hy0⟩ : ∃ x, R * s.ch = x := ⟨_, rfl⟩
  have p1 : partS (x0 : Int) s.cw W = ((x0 : Int), ((x0 + s.cw : Nat) : Int)) := by
    rw [hx0] at hx
    rw [partS_yes (by omega)]
    congr 1 <;> omega
  have p2 : partS (y0 : Int) s.ch H = ((y0 : Int), ((y0 + s.ch : Nat) : Int)) := by
    rw [hy0] at hy
    rw [partS_yes (by omega)]
    congr 1 <;> omega
  unfold cutM
  rw [hx0, hy0, p1, p2]
  simp only [Int.toNat_natCast]
  rw [if_neg (by omega), show x0 + s.cw - x0 = s.cw by omega, show y0 + s.ch - y0 = s.ch by omega]
  congr 2
  have hgl : (glyP s.cw s.ch (cellS ls R C).r (cellS ls R C).a).length = 4 * (s.cw * s.ch) := by unfold glyP; exact boxS_len (fun x y bw bh c P => layL_len ..) _ _ _ _ (layL_len ..)
  refine list_ext (by rw [tab_length, hgl]) (fun q hq => ?_)
  rw [tab_length] at hq
  rw [tab_get hq, gly_get hcw hch hq hz]
  obtain ⟨g1, g2⟩ := px_lt hq
  unfold cutF cutK
  obtain ⟨qx, hqx⟩ : ∃ x, q / 4 % s.cw = x := ⟨_, rfl⟩
  obtain ⟨qy, hqy⟩ : ∃ x, q / 4 / s.cw = x := ⟨_, rfl⟩
  rw [hqx] at g1 ⊢
  rw [hqy] at g2 ⊢
  have hXW : qx + x0 < W := by omega
  have hYH : qy + y0 < H := by omega
  have hPn := fit_idx hXW hYH
  obtain ⟨e1, e2⟩ := pos_of (W := W) (x := qx + x0) (y := qy + y0) hXW
  have hj : 4 * ((qy + y0) * W + (qx + x0)) + q % 4 < 4 * (W * H) := by omega
  have e3 : (4 * ((qy + y0) * W + (qx + x0)) + q % 4) / 4 = (qy + y0) * W + (qx + x0) := by omega
  have e4 : (4 * ((qy + y0) * W + (qx + x0)) + q % 4) % 4 = q % 4 := by omega
  rw [gls_get hcw hch hW hH hk hj, gro_get hcw hch hW hH hj, e3, e4, e1, e2]
  have d1 : (qx + x0) / s.cw = C := (cell_iff hcw).1 ⟨by omega, by omega⟩
  have d2 : (qy + y0) / s.ch = R := (cell_iff hch).1 ⟨by omega, by omega⟩
  rw [d1, d2, hx0, hy0, show ((qx + x0 : Nat) : Int) - (x0 : Int) = (qx : Int) by omega, show ((qy + y0 : Nat) : Int) - (y0 : Int) = (qy : Int) by omega]
theorem txtC_z {l : List Int} {R : Nat → Look} {la n : Nat} : (txtC l R la n).r = 0 → (txtC l R la n).a = ⟨0, 0, 0⟩ := by
  unfold txtC
  split
  · rename_i h
    intro h2
    simp only at h2
    omega
  · intro _; rfl
end Go.Proofs.Ytdjgmhbfohbenaa
