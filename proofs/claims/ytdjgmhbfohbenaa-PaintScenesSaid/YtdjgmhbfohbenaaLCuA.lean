/- What stays of a scene; a small scene drawn. -/
import Derived.Test.YtdjgmhbfohbenaaMFew
import Derived.Test.YtdjgmhbfohbenaaMDrw
import Derived.Deep.DeepCutAuto
namespace Go.Proofs.Ytdjgmhbfohbenaa
open Go.RowKit Go.Sort Pl
set_option linter.unusedVariables false
set_option linter.unusedSimpArgs false
theorem LineAt.mono {B B' : Nat} {w : World} {a : Option Addr} {n : Nat} {l : List Cl} (h : LineAt B w a n l) (hB : B ≤ B') : LineAt B' w a n l :=
  ⟨h.1, h.2.imp (fun h => h) fun ⟨b, off, ha, hb, hc⟩ => ⟨b, off, ha, by omega, hc⟩⟩
theorem LinesAt.mono {B B' : Nat} {w : World} {a : Option Addr} {n : Nat} {ls : List (List Cl)} (h : LinesAt B w a n ls) (hB : B ≤ B') : LinesAt B' w a n ls :=
  ⟨h.1, h.2.imp (fun h => h) fun ⟨b, off, ha, hb, hc⟩ => ⟨b, off, ha, by omega, fun j l hj => by
    obtain ⟨a', n', c', h1, h2⟩ := hc j l hj
    exact ⟨a', n', c', h1, h2.mono hB⟩⟩⟩
theorem PzsAt.mono {B B' : Nat} {w : World} {a : Option Addr} {n : Nat} {L : List Pz} (h : PzsAt B w a n L) (hB : B ≤ B') : PzsAt B' w a n L :=
  ⟨h.1, h.2.imp (fun h => h) fun ⟨b, off, ha, hb, hc⟩ => ⟨b, off, ha, by omega, hc⟩⟩
theorem MEAt.mono {B B' : Nat} {w : World} {m : ME} (h : MEAt B w m) (hB : B ≤ B') : MEAt B' w m :=
  ⟨h.s, fun b off h0 he => by have := h.b b off h0 he; omega, h.c, h.by', h.k, h.x, h.y, h.nil⟩
theorem MapAt.mono {B B' : Nat} {w : World} {im : Option Nat} {E : List ME} (h : MapAt B w im E) (hB : B ≤ B') : MapAt B' w im E :=
  h.imp (fun h => h) fun ⟨b, es, clock, h1, h2, h3, h4, h5, h6⟩ => ⟨b, es, clock, h1, by omega, h3, h4, h5, fun m hm => (h6 m hm).mono hB⟩
/-- What of a scene stays through a walk. -/
structure SceneAt (B : Nat) (w : World) (la : Option Addr) (ln : Nat) (pa : Option Addr) (pn : Nat) (im : Option Nat) (ls : List (List Cl)) (E : List ME) (L : List Pz) : Prop where
  lines : LinesAt B w la ln ls
  places : PzsAt B w pa pn L
  images : MapAt B w im E
theorem SceneAt.up {B : Nat} {w w' : World} {la : Option Addr} {ln : Nat} {pa : Option Addr} {pn : Nat} {im : Option Nat} {ls : List (List Cl)} {E : List ME} {L : List Pz} {S : Nat → Prop} (h : SceneAt B w la ln pa pn im ls E L) (hk : Kept S w w') (hS : ∀ i, S i → B ≤ i) (hB : B ≤ w'.heap.size) : SceneAt w'.heap.size w' la ln pa pn im ls E L :=
  ⟨(h.lines.kept hk hS).mono hB, (h.places.kept hk hS).mono hB, (h.images.kept hk hS).mono hB⟩
theorem FewP.ok {rows cols cw ch : Int} {E : List ME} {L : List Pz} {top : Int} (h : FewP rows cols cw ch E L top) (hi : ∀ p ∈ L, PzI p) (hz : True) : ∀ p ∈ L, p.Ok := by
  intro p hp
  obtain ⟨hm, h1, h2, h3, h4⟩ := h.pls p hp
  have hpi := hi p hp
  have hz := hm.z
  exact ⟨hpi.im, hm.line, hm.col, ⟨hm.rows.1, by omega⟩, ⟨hm.cols.1, by omega⟩, hpi.x, hpi.y, ⟨hm.w.1, h3⟩, ⟨hm.h.1, h4⟩, hm.dx, hm.dy, by unfold I64; omega⟩
theorem dim_of {rows cols cw ch : Nat} {la : Option Addr} {ln lc : Nat} {pa : Option Addr} {pn pc : Nat} {im : Option Nat} {top row col : Int} {cur : Bool} (h1 : 1 ≤ rows ∧ rows ≤ 1000) (h2 : 1 ≤ cols ∧ cols ≤ 1000) (h3 : 1 ≤ cw ∧ cw ≤ 64) (h4 : 1 ≤ ch ∧ ch ≤ 64) (ha : (rows : Int) * ch * cols * cw ≤ 4000) :
    Dim ⟨rows, cols, cw, ch, la, ln, lc, pa, pn, pc, im, top, cur, row, col⟩ (cols * cw) (rows * ch) (4 * (cols * cw * (rows * ch))) ∧ 4 * (cols * cw * (rows * ch)) ≤ 16000 ∧ 0 < 4 * (cols * cw * (rows * ch)) ∧ sizeB ((cols * cw : Nat) : Int) ((rows * ch : Nat) : Int) = true := by
  have e : (rows : Int) * ch * cols * cw = ((cols * cw * (rows * ch) : Nat) : Int) := by
    simp only [Int.natCast_mul]
    rw [Int.mul_assoc, Int.mul_comm]
  rw [e] at ha
  have p1 : 1 ≤ cols * cw := Nat.mul_pos (by omega) (by omega)
  have p2 : 1 ≤ rows * ch := Nat.mul_pos (by omega) (by omega)
  have q1 : cols * cw ≤ cols * cw * (rows * ch) := Nat.le_mul_of_pos_right _ p2
  have q2 : rows * ch ≤ cols * cw * (rows * ch) := Nat.le_mul_of_pos_left _ p1
  have p3 : 1 ≤ cols * cw * (rows * ch) := Nat.mul_pos p1 p2
  refine ⟨⟨h1.2, h2.2, h3, h4, by omega, by omega, rfl, by omega⟩, by omega, by omega, ?_⟩
  unfold sizeB
  refine decide_eq_true (.inr ⟨by omega, by omega, by omega, by omega, ?_⟩)
  rw [← Int.natCast_mul]; omega
theorem drawP_bytes' (s : Sc) (ls : List (List Cl)) (img : Bool → List Int → List Int) (W H n : Nat) (P : List Int) (hib : ∀ a P, IsBytes P → IsBytes (img a P)) (hP : IsBytes P) : IsBytes (drawP s ls img W H n P) := by
  unfold drawP
  have h := hib true _ (gls_bytes s ls W H (hib false _ (gro_bytes s ls W H hP)))
  unfold curP
  split
  · refine bytes_tab fun q => ?_
    unfold curF
    have := getD_byte h q
    split <;> omega
  · exact h
set_option maxRecDepth 100000 in
/-- A small scene drawn. -/
theorem draw_small (rows cols cw ch : Nat) (la : Option Addr) (ln lc : Nat) (pa : Option Addr) (pn pc : Nat) (im : Option Nat) (top : Int) (cur : Bool) (row col : Int) (ls : List (List Cl)) (E : List ME) (L : List Pz) (hf : FewP rows cols cw ch E L top) (hi : ∀ p ∈ L, PzI p) (hcl : ∀ l ∈ ls, ∀ c ∈ l, -2147483648 ≤ c.r ∧ c.r ≤ 2147483647) (hln : ln ≤ 9223372036854775807) (hpn : pn ≤ 9223372036854775807)
    (h1 : 1 ≤ rows ∧ rows ≤ 1000) (h2 : 1 ≤ cols ∧ cols ≤ 1000) (h3 : 1 ≤ cw ∧ cw ≤ 64) (h4 : 1 ≤ ch ∧ ch ≤ 64) (w : World) (hs : SceneAt w.heap.size w la ln pa pn im ls E L) :
    Calls Try.prog 11 #[.agg #[.int .i64 rows, .int .i64 cols, .int .i64 cw, .int .i64 ch, .slice la ln lc, .slice pa pn pc, .map im, .int .i64 top, .bool cur, .int .i64 row, .int .i64 col]] w fun e w' => ∃ g : Nat, e = .returned (.tuple #[mat (cols * cw : Nat) (rows * ch : Nat) (some ⟨g, 0, none⟩) (4 * (cols * cw * (rows * ch))) (4 * (cols * cw * (rows * ch))), .int .i64 0]) ∧ w.heap.size ≤ g ∧
      Own .u8 5 w' (.slice (some ⟨g, 0, none⟩) (4 * (cols * cw * (rows * ch))) (4 * (cols * cw * (rows * ch)))) (drawP ⟨rows, cols, cw, ch, la, ln, lc, pa, pn, pc, im, top, cur, row, col⟩ ls (imgsP (cols * cw) (rows * ch) (4 * (cols * cw * (rows * ch))) cw ch top E L) (cols * cw) (rows * ch) (4 * (cols * cw * (rows * ch))) (List.replicate (4 * (cols * cw * (rows * ch))) 0)) ∧ Kept (fun _ => False) w w' := by
  obtain ⟨hd, hn2, hn0, hsz⟩ := dim_of (la := la) (ln := ln) (lc := lc) (pa := pa) (pn := pn) (pc := pc) (im := im) (top := top) (row := row) (col := col) (cur := cur) h1 h2 h3 h4 (hf.area (by omega) (by omega) (by omega) (by omega) (by omega) (by omega) (by omega) (by omega))
  refine draw_yes ⟨rows, cols, cw, ch, la, ln, lc, pa, pn, pc, im, top, cur, row, col⟩ ls _ w (cols * cw) (rows * ch) (4 * (cols * cw * (rows * ch))) hd h1.1 h2.1 rfl rfl ?_ hln (images_any ⟨rows, cols, cw, ch, la, ln, lc, pa, pn, pc, im, top, cur, row, col⟩ (cols * cw) (rows * ch) (4 * (cols * cw * (rows * ch))) w.heap.size w E L hd (by omega) hn0 hsz ⟨hf.top0, hf.top1⟩ hpn hs.places (hf.ok hi trivial) hs.images (fun m hm => ⟨(hf.mats m hm).1, by have := (hf.mats m hm).2; omega⟩)) (fun a P hP => imgs_bytes (fun m hm => (hs.images.mem m hm).by') L P hP) hs.lines
  intro r c
  unfold cellS
  cases hr : ls[r]? with
  | none => simp [cl0]
  | some l =>
    simp only [Option.getD_some]
    cases hc : l[c]? with
    | none => simp [cl0]
    | some x => exact hcl l (List.mem_of_getElem? hr) x (List.mem_of_getElem? hc)
end Go.Proofs.Ytdjgmhbfohbenaa
