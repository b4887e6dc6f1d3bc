/- Places in a row: fourteen cells each; append; two places held against one another. -/
import Derived.Test.YtgbflcmageipdaaOwn
import Derived.Test.YtgbflcmageipdaaRows
import Derived.WalkLawsBesides
import Derived.Lib.Hide
namespace Go.Proofs.Ytgbflcmageipdaa
open Go.RowKit
set_option linter.unusedVariables false
set_option linter.unusedSimpArgs false
/-- A place. -/
structure Pl where
  im : Int
  id : Int
  alt : Bool
  line : Int
  col : Int
  rows : Int
  cols : Int
  x : Int
  y : Int
  w : Int
  h : Int
  dx : Int
  dy : Int
  z : Int
def Pl.vs (p : Pl) : List Value := [.int .i64 p.im, .int .i64 p.id, .bool p.alt, .int .i64 p.line, .int .i64 p.col, .int .i64 p.rows, .int .i64 p.cols, .int .i64 p.x, .int .i64 p.y, .int .i64 p.w, .int .i64 p.h, .int .i64 p.dx, .int .i64 p.dy, .int .i64 p.z]
def Pl.val (p : Pl) : Value := .agg #[.int .i64 p.im, .int .i64 p.id, .bool p.alt, .int .i64 p.line, .int .i64 p.col, .int .i64 p.rows, .int .i64 p.cols, .int .i64 p.x, .int .i64 p.y, .int .i64 p.w, .int .i64 p.h, .int .i64 p.dx, .int .i64 p.dy, .int .i64 p.z]
/-- The cells of a place's block. -/
def Pl.cs (p : Pl) : Array Value := #[.int .i64 p.im, .int .i64 p.id, .bool p.alt, .int .i64 p.line, .int .i64 p.col, .int .i64 p.rows, .int .i64 p.cols, .int .i64 p.x, .int .i64 p.y, .int .i64 p.w, .int .i64 p.h, .int .i64 p.dx, .int .i64 p.dy, .int .i64 p.z]
theorem Pl.vs_len (p : Pl) : p.vs.length = 14 := rfl
/-- The fourteen cells at a place's address. -/
def PAt (w : World) (b o : Nat) (p : Pl) : Prop := ∀ f, f < 14 → w.cell? ⟨b, o + f, none⟩ = p.vs[f]?
theorem PAt.cells {w : World} {b o : Nat} {p : Pl} (h : PAt w b o p) :
    w.cell? ⟨b, o, none⟩ = some (.int .i64 p.im) ∧ w.cell? ⟨b, o + 1, none⟩ = some (.int .i64 p.id) ∧ w.cell? ⟨b, o + 2, none⟩ = some (.bool p.alt) ∧ w.cell? ⟨b, o + 3, none⟩ = some (.int .i64 p.line) ∧ w.cell? ⟨b, o + 4, none⟩ = some (.int .i64 p.col) ∧
    w.cell? ⟨b, o + 5, none⟩ = some (.int .i64 p.rows) ∧ w.cell? ⟨b, o + 6, none⟩ = some (.int .i64 p.cols) ∧ w.cell? ⟨b, o + 7, none⟩ = some (.int .i64 p.x) ∧ w.cell? ⟨b, o + 8, none⟩ = some (.int .i64 p.y) ∧ w.cell? ⟨b, o + 9, none⟩ = some (.int .i64 p.w) ∧
    w.cell? ⟨b, o + 10, none⟩ = some (.int .i64 p.h) ∧ w.cell? ⟨b, o + 11, none⟩ = some (.int .i64 p.dx) ∧ w.cell? ⟨b, o + 12, none⟩ = some (.int .i64 p.dy) ∧ w.cell? ⟨b, o + 13, none⟩ = some (.int .i64 p.z) :=
  ⟨h 0 (by omega), h 1 (by omega), h 2 (by omega), h 3 (by omega), h 4 (by omega), h 5 (by omega), h 6 (by omega), h 7 (by omega), h 8 (by omega), h 9 (by omega), h 10 (by omega), h 11 (by omega), h 12 (by omega), h 13 (by omega)⟩
theorem PAt.kept {S : Nat → Prop} {w w' : World} {b o : Nat} {p : Pl} (h : PAt w b o p) (hk : Kept S w w') (hn : ¬ S b) : PAt w' b o p := fun f hf => by
  have hv : p.vs[f]? = some (p.vs[f]'(by rw [p.vs_len]; exact hf)) := List.getElem?_eq_getElem _
  rw [hv]
  exact hk.cell ((h f hf).trans hv) hn
/-- The fourteen cells of a block that a place fills. -/
theorem blk14 {w : World} {b : Nat} {p : Pl} {t : TypeId} (h : w.heap[b]? = some (.cells p.cs t (0, 0))) :
    w.cell? ⟨b, 0, none⟩ = some (.int .i64 p.im) ∧ w.cell? ⟨b, 1, none⟩ = some (.int .i64 p.id) ∧ w.cell? ⟨b, 2, none⟩ = some (.bool p.alt) ∧ w.cell? ⟨b, 3, none⟩ = some (.int .i64 p.line) ∧ w.cell? ⟨b, 4, none⟩ = some (.int .i64 p.col) ∧
    w.cell? ⟨b, 5, none⟩ = some (.int .i64 p.rows) ∧ w.cell? ⟨b, 6, none⟩ = some (.int .i64 p.cols) ∧ w.cell? ⟨b, 7, none⟩ = some (.int .i64 p.x) ∧ w.cell? ⟨b, 8, none⟩ = some (.int .i64 p.y) ∧ w.cell? ⟨b, 9, none⟩ = some (.int .i64 p.w) ∧
    w.cell? ⟨b, 10, none⟩ = some (.int .i64 p.h) ∧ w.cell? ⟨b, 11, none⟩ = some (.int .i64 p.dx) ∧ w.cell? ⟨b, 12, none⟩ = some (.int .i64 p.dy) ∧ w.cell? ⟨b, 13, none⟩ = some (.int .i64 p.z) :=
  ⟨blk_cell h 0, blk_cell h 1, blk_cell h 2, blk_cell h 3, blk_cell h 4, blk_cell h 5, blk_cell h 6, blk_cell h 7, blk_cell h 8, blk_cell h 9, blk_cell h 10, blk_cell h 11, blk_cell h 12, blk_cell h 13⟩
/-- All cells of a list of places. -/
def flat (L : List Pl) : List Value := L.flatMap Pl.vs
theorem flat_length (L : List Pl) : (flat L).length = L.length * 14 := by
  induction L with
  | nil => rfl
  | cons p L ih => show (p.vs ++ flat L).length = _; rw [List.length_append, ih, p.vs_len, List.length_cons]; omega
theorem flat_append (L M : List Pl) : flat (L ++ M) = flat L ++ flat M := by unfold flat; rw [List.flatMap_append]
theorem flat_get : ∀ (L : List Pl) (j f : Nat) (p : Pl), L[j]? = some p → f < 14 → (flat L)[j * 14 + f]? = p.vs[f]?
  | [], j, f, p, h, _ => by simp at h
  | q :: L, 0, f, p, h, hf => by
    simp at h; subst h
    show (q.vs ++ flat L)[0 * 14 + f]? = _
    rw [Nat.zero_mul, Nat.zero_add, List.getElem?_append_left (by rw [q.vs_len]; exact hf)]
  | q :: L, j + 1, f, p, h, hf => by
    show (q.vs ++ flat L)[(j + 1) * 14 + f]? = _
    rw [List.getElem?_append_right (by rw [q.vs_len]; omega), q.vs_len, show (j + 1) * 14 + f - 14 = j * 14 + f by omega]
    exact flat_get L j f p (by simpa using h) hf
theorem flat_one (L : List Pl) : ∀ u ∈ flat L, u.oneCell' = true := by
  intro u hu
  obtain ⟨p, -, hp⟩ := List.mem_flatMap.1 hu
  simp only [Pl.vs, List.mem_cons, List.not_mem_nil, or_false] at hp
  rcases hp with rfl | rfl | rfl | rfl | rfl | rfl | rfl | rfl | rfl | rfl | rfl | rfl | rfl | rfl <;> rfl
/-- A slice that reads as a list of places. -/
def SlP (w : World) (a : Option Addr) (n : Nat) (L : List Pl) : Prop := L.length = n ∧ (n = 0 ∨ ∃ b off, a = some ⟨b, off, none⟩ ∧ ∀ j p, L[j]? = some p → PAt w b (off + j * 14) p)
theorem SlP.kept {S : Nat → Prop} {w w' : World} {a : Option Addr} {n : Nat} {L : List Pl} (h : SlP w a n L) (hk : Kept S w w') (hn : ∀ b off, 0 < n → a = some ⟨b, off, none⟩ → ¬ S b) : SlP w' a n L := by
  obtain ⟨h1, h2⟩ := h
  refine ⟨h1, ?_⟩
  by_cases h0 : n = 0
  · exact .inl h0
  · obtain ⟨b, off, ha, hc⟩ := h2.resolve_left h0
    exact .inr ⟨b, off, ha, fun j p hp => (hc j p hp).kept hk (hn b off (by omega) ha)⟩
/-- A slice of places that the call owns. -/
def OwnP (w : World) (v : Value) (L : List Pl) : Prop := w.ownsRow 0 34 14 v L.length (flat L)
theorem OwnP.nil (w : World) : OwnP w (.slice none 0 0) [] := World.ownsRow_nil w 0 34 14
theorem OwnP.kept {S : Nat → Prop} {w w' : World} {v : Value} {L : List Pl} (h : OwnP w v L) (hk : Kept S w w') (hn : ∀ b, v.ownBlock = some b → ¬ S b) : OwnP w' v L := by
  obtain ⟨h1, h2⟩ := h
  refine ⟨h1, ?_⟩
  rcases h2 with h2 | ⟨g, cap, cur, rfl, hb, hg, r⟩
  · exact .inl h2
  · exact .inr ⟨g, cap, cur, rfl, hb, hk.blk hg (hn g rfl), r⟩
theorem OwnP.lt {w : World} {v : Value} {L : List Pl} (h : OwnP w v L) : ∀ b, v.ownBlock = some b → b < w.heap.size := fun b hb => (World.ownsRow.lt h b hb).2
theorem OwnP.shape {w : World} {v : Value} {L : List Pl} (h : OwnP w v L) : ∃ a cap, v = .slice a L.length cap ∧ SlP w a L.length L ∧ L.length ≤ cap ∧ cap ≤ maxLen ∧ (a = none → L.length = 0 ∧ cap = 0) ∧
    (∀ b off, a = some ⟨b, off, none⟩ → v.ownBlock = some b) := by
  obtain ⟨h1, h2⟩ := h
  rcases h2 with ⟨rfl, h0⟩ | ⟨g, cap, cur, rfl, -, hg, hn, hc, hcs, ht⟩
  · exact ⟨none, 0, by rw [h0], ⟨rfl, .inl h0⟩, by omega, by simp [maxLen], fun _ => ⟨h0, rfl⟩, fun _ _ h => by cases h⟩
  · refine ⟨some ⟨g, 0, none⟩, cap, rfl, ⟨rfl, .inr ⟨g, 0, rfl, fun j p hp f hf => ?_⟩⟩, hn, hc, (fun h => by cases h), (fun b off h => by cases h; rfl)⟩
    have hj : j < L.length := (List.getElem?_eq_some_iff.1 hp).1
    rw [blk_cell hg]
    have h3 : (cur.toList.take (L.length * 14))[j * 14 + f]? = p.vs[f]? := by rw [ht]; exact flat_get L j f p hp hf
    rw [List.getElem?_take, if_pos (by omega)] at h3
    rw [Nat.zero_add]
    simpa using h3
theorem slP_one {w : World} {b : Nat} {p : Pl} {t : TypeId} (h : w.heap[b]? = some (.cells p.cs t (0, 0))) : SlP w (some ⟨b, 0, none⟩) 1 [p] := by
  refine ⟨rfl, .inr ⟨b, 0, rfl, fun j q hq f hf => ?_⟩⟩
  rcases j with _ | j
  · simp at hq; subst hq
    have e : 0 + 0 * 14 + f = f := by omega
    rw [e, blk_cell h]
    show p.vs.toArray[f]? = _
    rw [List.getElem?_toArray]
  · simp at hq
/-- APPEND of places onto a slice of the call's own. -/
theorem wpList_appP {P : Program} {w : World} {ops : Array Oper} {rest : List Oper} {o : Oper} {a : Act} {Q : Exit → Act → World → Prop} (hgd : o.guard = none) (s x : Operand) (t : TypeId)
    (ho : o.op = .call { callee := .builtin .append, args := #[s, x], argTypes := #[t, t] })
    (i : TypeInfo) (z : Value) (bytes : Nat) (ht : P.underlying t = some (.slice 34)) (hi : P.info? 34 = some i) (hz : i.zero = some z)
    (hsize : i.size = 14) (hby : i.bytes = bytes) (hzs : z.cells.size = 14)
    (v : Value) (L : List Pl) (hs : a.eval s = v) (hown : OwnP w v L)
    (ad : Option Addr) (m c : Nat) (M : List Pl) (hx : a.eval x = .slice ad m c) (hnil : ad = none → m = 0 ∧ c = 0) (hsl : SlP w ad m M)
    (hbytes : (L.length + m) * bytes ≤ 140737488355328) (h63 : L.length + m ≤ maxLen)
    (h : ∀ v' w', OwnP w' v' (L ++ M) → Kept (fun k => v.ownBlock = some k) w w' → (v'.ownBlock = v.ownBlock ∨ v'.ownBlock = some w.heap.size) → wpList P ops Q rest (a.put o.dst v') w') : wpList P ops Q (o :: rest) a w := by
  refine wpList_app hgd s x t ho 34 i z 14 bytes ht hi hz hsize hby hzs (by omega) v L.length _ hs hown ad m c (flat M) hx hnil (by rw [flat_length, hsl.1]) ?_ (flat_one M) h63 hbytes fun v' w' h1 h2 h3 => h v' w' ?_ h2 h3
  · rintro y rfl j u hu
    rcases hsl with ⟨hl, h0 | ⟨b, off, hy, hc⟩⟩
    · have : M = [] := List.eq_nil_of_length_eq_zero (by omega)
      subst this
      cases hu
    · cases hy
      have hj : j < M.length * 14 := by rw [← flat_length]; exact (List.getElem?_eq_some_iff.1 hu).1
      have hq : j / 14 < M.length := by omega
      have hp : M[j / 14]? = some M[j / 14] := List.getElem?_eq_getElem hq
      have h1 := flat_get M (j / 14) (j % 14) _ hp (by omega)
      rw [show j / 14 * 14 + j % 14 = j by omega, hu] at h1
      have h2 := hc (j / 14) _ hp (j % 14) (by omega)
      rw [← h1, show off + j / 14 * 14 + j % 14 = off + j by omega] at h2
      have e : (⟨b, off, none⟩ : Addr).add j = ⟨b, off + j, none⟩ := by unfold Addr.add; split <;> simp_all
      rw [e, h2]
  · unfold OwnP
    rw [flat_append, List.length_append, hsl.1]
    exact h1
theorem info34 : (Try.prog.info? 34).map (fun i => (i.zero, i.size, i.bytes)) = some (some (.agg #[.int .i64 0, .int .i64 0, .bool false, .int .i64 0, .int .i64 0, .int .i64 0, .int .i64 0, .int .i64 0, .int .i64 0, .int .i64 0, .int .i64 0, .int .i64 0, .int .i64 0, .int .i64 0]), 14, 112) := by kernel_rfl
end Go.Proofs.Ytgbflcmageipdaa
