/- Events in a row: seven cells each; append. -/
import Derived.Test.YtnaoobgghgnflaaPut
import Derived.Lib.Hide
namespace Go.Proofs.Ytnaoobgghgnflaa
open Go.RowKit Pl
set_option linter.unusedVariables false
set_option linter.unusedSimpArgs false
/-- An event as it lies in memory. -/
structure EvV where
  k : Int
  r : Int
  b : Int
  pv : Int
  s : ByteArray
  ap : Option Addr
  np : Nat
  cp : Nat
  ad : Option Addr
  nd : Nat
  cd : Nat
/-- An event. -/
structure Ev where
  k : Int
  r : Int
  b : Int
  pv : Int
  s : ByteArray
  ps : List Int
  ds : List Int
def EvV.vs (p : EvV) : List Value := [.int .i64 p.k, .int .i32 p.r, .int .u8 p.b, .int .u8 p.pv, .string p.s, .slice p.ap p.np p.cp, .slice p.ad p.nd p.cd]
def EvV.val (p : EvV) : Value := .agg #[.int .i64 p.k, .int .i32 p.r, .int .u8 p.b, .int .u8 p.pv, .string p.s, .slice p.ap p.np p.cp, .slice p.ad p.nd p.cd]
def EvV.cs (p : EvV) : Array Value := #[.int .i64 p.k, .int .i32 p.r, .int .u8 p.b, .int .u8 p.pv, .string p.s, .slice p.ap p.np p.cp, .slice p.ad p.nd p.cd]
theorem EvV.vs_len (p : EvV) : p.vs.length = 7 := rfl
def PAt (w : World) (b o : Nat) (p : EvV) : Prop := ∀ f, f < 7 → w.cell? ⟨b, o + f, none⟩ = p.vs[f]?
theorem PAt.cells {w : World} {b o : Nat} {p : EvV} (h : PAt w b o p) : w.cell? ⟨b, o, none⟩ = some (.int .i64 p.k) ∧ w.cell? ⟨b, o + 1, none⟩ = some (.int .i32 p.r) ∧ w.cell? ⟨b, o + 2, none⟩ = some (.int .u8 p.b) ∧ w.cell? ⟨b, o + 3, none⟩ = some (.int .u8 p.pv) ∧ w.cell? ⟨b, o + 4, none⟩ = some (.string p.s) ∧ w.cell? ⟨b, o + 5, none⟩ = some (.slice p.ap p.np p.cp) ∧ w.cell? ⟨b, o + 6, none⟩ = some (.slice p.ad p.nd p.cd) :=
  ⟨h 0 (by omega), h 1 (by omega), h 2 (by omega), h 3 (by omega), h 4 (by omega), h 5 (by omega), h 6 (by omega)⟩
theorem PAt.kept {S : Nat → Prop} {w w' : World} {b o : Nat} {p : EvV} (h : PAt w b o p) (hk : Kept S w w') (hn : ¬ S b) : PAt w' b o p := fun f hf => by
  have hv : p.vs[f]? = some (p.vs[f]'(by rw [p.vs_len]; exact hf)) := List.getElem?_eq_getElem _
  rw [hv]
  exact hk.cell ((h f hf).trans hv) hn
theorem blk7 {w : World} {b : Nat} {p : EvV} {t : TypeId} (h : w.heap[b]? = some (.cells p.cs t (0, 0))) : w.cell? ⟨b, 0, none⟩ = some (.int .i64 p.k) ∧ w.cell? ⟨b, 1, none⟩ = some (.int .i32 p.r) ∧ w.cell? ⟨b, 2, none⟩ = some (.int .u8 p.b) ∧ w.cell? ⟨b, 3, none⟩ = some (.int .u8 p.pv) ∧ w.cell? ⟨b, 4, none⟩ = some (.string p.s) ∧ w.cell? ⟨b, 5, none⟩ = some (.slice p.ap p.np p.cp) ∧ w.cell? ⟨b, 6, none⟩ = some (.slice p.ad p.nd p.cd) :=
  ⟨blk_cell h 0, blk_cell h 1, blk_cell h 2, blk_cell h 3, blk_cell h 4, blk_cell h 5, blk_cell h 6⟩
/-- All cells of a list of events. -/
def flat (L : List EvV) : List Value := L.flatMap EvV.vs
theorem flat_length (L : List EvV) : (flat L).length = L.length * 7 := by
  induction L with
  | nil => rfl
  | cons p L ih => show (p.vs ++ flat L).length = _; rw [List.length_append, ih, p.vs_len, List.length_cons]; omega
theorem flat_append (L M : List EvV) : flat (L ++ M) = flat L ++ flat M := by unfold flat; rw [List.flatMap_append]
theorem flat_get : ∀ (L : List EvV) (j f : Nat) (p : EvV), L[j]? = some p → f < 7 → (flat L)[j * 7 + f]? = p.vs[f]?
  | [], j, f, p, h, _ => by simp at h
  | q :: L, 0, f, p, h, hf => by
    simp at h; subst h
    show (q.vs ++ flat L)[0 * 7 + f]? = _
    rw [Nat.zero_mul, Nat.zero_add, List.getElem?_append_left (by rw [q.vs_len]; exact hf)]
  | q :: L, j + 1, f, p, h, hf => by
    show (q.vs ++ flat L)[(j + 1) * 7 + f]? = _
    rw [List.getElem?_append_right (by rw [q.vs_len]; omega), q.vs_len, show (j + 1) * 7 + f - 7 = j * 7 + f by omega]
    exact flat_get L j f p (by simpa using h) hf
theorem flat_one (L : List EvV) : ∀ u ∈ flat L, u.oneCell' = true := by
  intro u hu
  obtain ⟨p, -, hp⟩ := List.mem_flatMap.1 hu
  simp only [EvV.vs, List.mem_cons, List.not_mem_nil, or_false] at hp
  rcases hp with rfl | rfl | rfl | rfl | rfl | rfl | rfl <;> rfl
/-- A slice that reads as a list of events. -/
def SlE (w : World) (a : Option Addr) (n : Nat) (L : List EvV) : Prop := L.length = n ∧ (n = 0 ∨ ∃ b off, a = some ⟨b, off, none⟩ ∧ ∀ j p, L[j]? = some p → PAt w b (off + j * 7) p)
theorem SlE.kept {S : Nat → Prop} {w w' : World} {a : Option Addr} {n : Nat} {L : List EvV} (h : SlE w a n L) (hk : Kept S w w') (hn : ∀ b off, 0 < n → a = some ⟨b, off, none⟩ → ¬ S b) : SlE w' a n L := by
  obtain ⟨h1, h2⟩ := h
  refine ⟨h1, ?_⟩
  by_cases h0 : n = 0
  · exact .inl h0
  · obtain ⟨b, off, ha, hc⟩ := h2.resolve_left h0
    exact .inr ⟨b, off, ha, fun j p hp => (hc j p hp).kept hk (hn b off (by omega) ha)⟩
/-- A slice of events that the call owns. -/
def OwnE (w : World) (v : Value) (L : List EvV) : Prop := w.ownsRow 0 30 7 v L.length (flat L)
theorem OwnE.nil (w : World) : OwnE w (.slice none 0 0) [] := World.ownsRow_nil w 0 30 7
theorem OwnE.kept {S : Nat → Prop} {w w' : World} {v : Value} {L : List EvV} (h : OwnE w v L) (hk : Kept S w w') (hn : ∀ b, v.ownBlock = some b → ¬ S b) : OwnE w' v L := by
  obtain ⟨h1, h2⟩ := h
  refine ⟨h1, ?_⟩
  rcases h2 with h2 | ⟨g, cap, cur, rfl, hb, hg, r⟩
  · exact .inl h2
  · exact .inr ⟨g, cap, cur, rfl, hb, hk.blk hg (hn g rfl), r⟩
theorem OwnE.lt {w : World} {v : Value} {L : List EvV} (h : OwnE w v L) : ∀ b, v.ownBlock = some b → b < w.heap.size := fun b hb => (World.ownsRow.lt h b hb).2
theorem OwnE.shape {w : World} {v : Value} {L : List EvV} (h : OwnE w v L) : ∃ a cap, v = .slice a L.length cap ∧ SlE w a L.length L ∧ L.length ≤ cap ∧ cap ≤ maxLen ∧ (a = none → L.length = 0 ∧ cap = 0) ∧
    (∀ b off, a = some ⟨b, off, none⟩ → v.ownBlock = some b) := by
  obtain ⟨h1, h2⟩ := h
  rcases h2 with ⟨rfl, h0⟩ | ⟨g, cap, cur, rfl, -, hg, hn, hc, hcs, ht⟩
  · exact ⟨none, 0, by rw [h0], ⟨rfl, .inl h0⟩, by omega, by simp [maxLen], fun _ => ⟨h0, rfl⟩, fun _ _ h => by cases h⟩
  · refine ⟨some ⟨g, 0, none⟩, cap, rfl, ⟨rfl, .inr ⟨g, 0, rfl, fun j p hp f hf => ?_⟩⟩, hn, hc, (fun h => by cases h), (fun b off h => by cases h; rfl)⟩
    have hj : j < L.length := (List.getElem?_eq_some_iff.1 hp).1
    rw [blk_cell hg]
    have h3 : (cur.toList.take (L.length * 7))[j * 7 + f]? = p.vs[f]? := by rw [ht]; exact flat_get L j f p hp hf
    rw [List.getElem?_take, if_pos (by omega)] at h3
    rw [Nat.zero_add]
    simpa using h3
theorem slE_one {w : World} {b : Nat} {p : EvV} {t : TypeId} (h : w.heap[b]? = some (.cells p.cs t (0, 0))) : SlE w (some ⟨b, 0, none⟩) 1 [p] := by
  refine ⟨rfl, .inr ⟨b, 0, rfl, fun j q hq f hf => ?_⟩⟩
  rcases j with _ | j
  · simp at hq; subst hq
    have e : 0 + 0 * 7 + f = f := by omega
    rw [e, blk_cell h]
    show p.vs.toArray[f]? = _
    rw [List.getElem?_toArray]
  · simp at hq
/-- APPEND of events onto a slice of the call's own. -/
theorem wpList_appE {P : Program} {w : World} {ops : Array Oper} {rest : List Oper} {o : Oper} {a : Act} {Q : Exit → Act → World → Prop} (hgd : o.guard = none) (s x : Operand) (t : TypeId)
    (ho : o.op = .call { callee := .builtin .append, args := #[s, x], argTypes := #[t, t] })
    (i : TypeInfo) (z : Value) (bytes : Nat) (ht : P.underlying t = some (.slice 30)) (hi : P.info? 30 = some i) (hz : i.zero = some z)
    (hsize : i.size = 7) (hby : i.bytes = bytes) (hzs : z.cells.size = 7)
    (v : Value) (L : List EvV) (hs : a.eval s = v) (hown : OwnE w v L)
    (ad : Option Addr) (m c : Nat) (M : List EvV) (hx : a.eval x = .slice ad m c) (hnil : ad = none → m = 0 ∧ c = 0) (hsl : SlE w ad m M)
    (hbytes : (L.length + m) * bytes ≤ 140737488355328) (h63 : L.length + m ≤ maxLen)
    (h : ∀ v' w', OwnE w' v' (L ++ M) → Kept (fun k => v.ownBlock = some k) w w' → (v'.ownBlock = v.ownBlock ∨ v'.ownBlock = some w.heap.size) → wpList P ops Q rest (a.put o.dst v') w') : wpList P ops Q (o :: rest) a w := by
  refine wpList_app hgd s x t ho 30 i z 7 bytes ht hi hz hsize hby hzs (by omega) v L.length _ hs hown ad m c (flat M) hx hnil (by rw [flat_length, hsl.1]) ?_ (flat_one M) h63 hbytes fun v' w' h1 h2 h3 => h v' w' ?_ h2 h3
  · rintro y rfl j u hu
    rcases hsl with ⟨hl, h0 | ⟨b, off, hy, hc⟩⟩
    · have : M = [] := List.eq_nil_of_length_eq_zero (by omega)
      subst this
      cases hu
    · cases hy
      have hj : j < M.length * 7 := by rw [← flat_length]; exact (List.getElem?_eq_some_iff.1 hu).1
      have hq : j / 7 < M.length := by omega
      have hp : M[j / 7]? = some M[j / 7] := List.getElem?_eq_getElem hq
      have h1 := flat_get M (j / 7) (j % 7) _ hp (by omega)
      rw [show j / 7 * 7 + j % 7 = j by omega, hu] at h1
      have h2 := hc (j / 7) _ hp (j % 7) (by omega)
      rw [← h1, show off + j / 7 * 7 + j % 7 = off + j by omega] at h2
      have e : (⟨b, off, none⟩ : Addr).add j = ⟨b, off + j, none⟩ := by unfold Addr.add; split <;> simp_all
      rw [e, h2]
  · unfold OwnE
    rw [flat_append, List.length_append, hsl.1]
    exact h1
theorem run_appE {P : Program} {w : World} {t ty : TypeId} {i : TypeInfo} {z : Value} {bytes : Nat} (ht : P.underlying t = some (.slice 30)) (hi : P.info? 30 = some i) (hz : i.zero = some z)
    (hsize : i.size = 7) (hby : i.bytes = bytes) (hzs : z.cells.size = 7)
    {v : Value} {L : List EvV} (hown : OwnE w v L) {y : Addr} {m c : Nat} {M : List EvV} (hsl : SlE w (some y) m M)
    (hbytes : (L.length + m) * bytes ≤ 140737488355328) (h63 : L.length + m ≤ maxLen) :
    ∃ v' w', (Builtin.append_ #[t, t] ty #[v, .slice (some y) m c]).run P w = .ok v' w' ∧ OwnE w' v' (L ++ M) ∧ Kept (fun k => v.ownBlock = some k) w w' ∧ (v'.ownBlock = v.ownBlock ∨ v'.ownBlock = some w.heap.size) := by
  have hl : (flat M).length = m * 7 := by rw [flat_length, hsl.1]
  have hnews : ∀ j u, (flat M)[j]? = some u → w.cell? (y.add j) = some u := by
    intro j u hu
    rcases hsl with ⟨hl, h0 | ⟨b, off, hy, hc⟩⟩
    · have : M = [] := List.eq_nil_of_length_eq_zero (by omega)
      subst this
      cases hu
    · cases hy
      have hj : j < M.length * 7 := by rw [← flat_length]; exact (List.getElem?_eq_some_iff.1 hu).1
      have hq : j / 7 < M.length := by omega
      have hp : M[j / 7]? = some M[j / 7] := List.getElem?_eq_getElem hq
      have h1 := flat_get M (j / 7) (j % 7) _ hp (by omega)
      rw [show j / 7 * 7 + j % 7 = j by omega, hu] at h1
      have h2 := hc (j / 7) _ hp (j % 7) (by omega)
      rw [← h1, show off + j / 7 * 7 + j % 7 = off + j by omega] at h2
      have e : (⟨b, off, none⟩ : Addr).add j = ⟨b, off + j, none⟩ := by unfold Addr.add; split <;> simp_all
      rw [e, h2]
  obtain ⟨v', w', hrun, ho', hg, -⟩ := run_append_own (P := P) (w := w) 0 t ty 30 i z 7 bytes ht hi hz hsize hby hzs (by omega) v L.length _ hown y m c _ hl hnews (flat_one M) h63 hbytes (Nat.zero_le _)
  have hp := app_prov (ty := ty) ht hi hz hsize hby (by omega) hown hl hnews (flat_one M) h63 hbytes hrun
  refine ⟨v', w', hrun, ?_, (Kept.refl _ _).grown hg (fun k hk => .inl hk), hp⟩
  unfold OwnE
  rw [flat_append, List.length_append, hsl.1]
  exact ho'
theorem step_appE {P : Program} {w : World} {ops : Array Oper} {o : Oper} {a : Act} {K : Act → World → Prop} {Q : Exit → Act → World → Prop} {E : Prop} (hgd : o.guard = none) (s x : Operand) (t : TypeId)
    (ho : o.op = .call { callee := .builtin .append, args := #[s, x], argTypes := #[t, t] })
    (i : TypeInfo) (z : Value) (bytes : Nat) (ht : P.underlying t = some (.slice 30)) (hi : P.info? 30 = some i) (hz : i.zero = some z)
    (hsize : i.size = 7) (hby : i.bytes = bytes) (hzs : z.cells.size = 7)
    (v : Value) (L : List EvV) (hs : a.eval s = v) (hown : OwnE w v L)
    (y : Addr) (m c : Nat) (M : List EvV) (hx : a.eval x = .slice (some y) m c) (hsl : SlE w (some y) m M)
    (hbytes : (L.length + m) * bytes ≤ 140737488355328) (h63 : L.length + m ≤ maxLen)
    (h : ∀ v' w', OwnE w' v' (L ++ M) → Kept (fun k => v.ownBlock = some k) w w' → (v'.ownBlock = v.ownBlock ∨ v'.ownBlock = some w.heap.size) → K (a.put o.dst v') w') :
    if Region.wanted o (yielded ops a.tmps) = true then Oper.wp P o a w K Q else E := by
  have hw : Region.wanted o (yielded ops a.tmps) = true := by simp [Region.wanted, hgd]
  rw [if_pos hw]
  obtain ⟨v', w', hrun, h1, h2, h3⟩ := run_appE (ty := o.type) ht hi hz hsize hby hzs hown (c := c) hsl hbytes h63
  unfold Oper.wp
  simp [execOp, ho, resolve, invoke, builtin, hs, hx, Result.andThen]
  rw [hrun]
  exact h v' w' h1 h2 h3
theorem info30 : (Try.prog.info? 30).map (fun i => (i.zero, i.size, i.bytes)) = some (some (.agg #[.int .i64 0, .int .i32 0, .int .u8 0, .int .u8 0, .string ByteArray.empty, .slice none 0 0, .slice none 0 0]), 7, 80) := by kernel_rfl
end Go.Proofs.Ytnaoobgghgnflaa
