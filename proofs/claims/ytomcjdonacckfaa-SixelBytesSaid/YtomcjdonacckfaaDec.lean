/- A decoder: what it holds, where it lies. -/
import Derived.Test.YtomcjdonacckfaaHuev
import Derived.Test.YtomcjdonacckfaaApp
namespace Go.Proofs.Ytomcjdonacckfaa
open Go.RowKit
set_option linter.unusedVariables false
set_option linter.unusedSimpArgs false
structure Dec where
  clear : Bool
  most : Int
  l : List Int
  now : Int
  x : Int
  y : Int
  w : Int
  h : Int
  p : List Int
  drawn : Bool
  down : Bool
  full : Bool
  over : Bool
  cmd : Int
  n : List Int
  v : Int
  rep : Int
/-- The cells behind the registers. -/
def Dec.tail (d : Dec) (pv nv : Value) : List Value := [.int .i64 d.now, .int .i64 d.x, .int .i64 d.y, .int .i64 d.w, .int .i64 d.h, pv, .bool d.drawn, .bool d.down, .bool d.full, .bool d.over, .int .u8 d.cmd, nv, .int .i64 d.v, .int .i64 d.rep]
def Dec.cells (d : Dec) (pv nv : Value) : List Value := .bool d.clear :: .int .i64 d.most :: (d.l.map (Value.int .u8) ++ d.tail pv nv)
/-- The block of a decoder. -/
def DBlk (W : World) (a : Nat) (d : Dec) (pv nv : Value) : Prop := d.l.length = 768 ∧ W.heap[a]? = some (.cells (d.cells pv nv).toArray 73 (0, 0))
theorem DBlk.cell {W : World} {a : Nat} {d : Dec} {pv nv : Value} (h : DBlk W a d pv nv) (i : Nat) {v : Value} (hi : (d.cells pv nv)[i]? = some v) : W.cell? ⟨a, i, none⟩ = some v ∧ W.frozen? ⟨a, i, none⟩ = false :=
  ⟨by rw [blk_cell h.2, List.getElem?_toArray, hi], blk_free h.2 i⟩
theorem tail_at (d : Dec) (pv nv : Value) (hl : d.l.length = 768) (j : Nat) : (d.cells pv nv)[770 + j]? = (d.tail pv nv)[j]? := by
  unfold Dec.cells
  rw [show 770 + j = (768 + j) + 1 + 1 by omega, List.getElem?_cons_succ, List.getElem?_cons_succ, List.getElem?_append_right (by simp; omega)]
  simp [hl]
theorem reg_at (d : Dec) (pv nv : Value) (hl : d.l.length = 768) (j : Nat) (hj : j < 768) : (d.cells pv nv)[2 + j]? = some (.int .u8 (d.l.getD j 0)) := by
  unfold Dec.cells
  rw [show 2 + j = j + 1 + 1 by omega, List.getElem?_cons_succ, List.getElem?_cons_succ, List.getElem?_append_left (by simp; omega)]
  simp [hl, hj]
theorem DBlk.fclear {W : World} {a : Nat} {d : Dec} {pv nv : Value} (h : DBlk W a d pv nv) : W.cell? ⟨a, 0, none⟩ = some (.bool d.clear) ∧ W.frozen? ⟨a, 0, none⟩ = false := h.cell 0 rfl
theorem DBlk.fmost {W : World} {a : Nat} {d : Dec} {pv nv : Value} (h : DBlk W a d pv nv) : W.cell? ⟨a, 1, none⟩ = some (.int .i64 d.most) ∧ W.frozen? ⟨a, 1, none⟩ = false := h.cell 1 rfl
theorem DBlk.reg {W : World} {a : Nat} {d : Dec} {pv nv : Value} (h : DBlk W a d pv nv) (j : Nat) (hj : j < 768) : W.cell? ⟨a, 2 + j, none⟩ = some (.int .u8 (d.l.getD j 0)) ∧ W.frozen? ⟨a, 2 + j, none⟩ = false := h.cell (2 + j) (reg_at d pv nv h.1 j hj)
theorem DBlk.kept {S : Nat → Prop} {w w' : World} {a : Nat} {d : Dec} {pv nv : Value} (h : DBlk w a d pv nv) (hk : Kept S w w') (ha : ¬ S a) : DBlk w' a d pv nv := ⟨h.1, hk.blk h.2 ha⟩
theorem DBlk.lt {w : World} {a : Nat} {d : Dec} {pv nv : Value} (h : DBlk w a d pv nv) : a < w.heap.size := lt_of_blk h.2
theorem DBlk.set {W : World} {a : Nat} {d d' : Dec} {pv nv pv' nv' : Value} (h : DBlk W a d pv nv) (i : Nat) (u : Value) (hl : d'.l.length = 768) (hs : (d.cells pv nv).set i u = d'.cells pv' nv') : DBlk (W.setCell ⟨a, i, none⟩ u) a d' pv' nv' :=
  ⟨hl, by rw [← hs]; have := blk_set h.2 i u; simpa using this⟩
theorem cells_set (d : Dec) (pv nv u : Value) (hl : d.l.length = 768) (j : Nat) : (d.cells pv nv).set (770 + j) u = .bool d.clear :: .int .i64 d.most :: (d.l.map (Value.int .u8) ++ (d.tail pv nv).set j u) := by
  unfold Dec.cells
  rw [show 770 + j = (768 + j) + 1 + 1 by omega, List.set_cons_succ, List.set_cons_succ, List.set_append_right _ _ (by simp; omega)]
  simp [hl]
theorem DBlk.setReg {W : World} {a : Nat} {d : Dec} {pv nv : Value} (h : DBlk W a d pv nv) (j : Nat) (hj : j < 768) (u : Int) : DBlk (W.setCell ⟨a, 2 + j, none⟩ (.int .u8 u)) a { d with l := d.l.set j u } pv nv :=
  h.set (2 + j) _ (by simpa using h.1) (by
    show (d.cells pv nv).set (2 + j) _ = .bool d.clear :: .int .i64 d.most :: ((d.l.set j u).map (Value.int .u8) ++ d.tail pv nv)
    unfold Dec.cells
    rw [show 2 + j = j + 1 + 1 by omega, List.set_cons_succ, List.set_cons_succ, List.set_append_left _ _ (by simpa [h.1] using hj), List.map_set])

theorem DBlk.fnow {W : World} {a : Nat} {d : Dec} {pv nv : Value} (h : DBlk W a d pv nv) : W.cell? ⟨a, 770, none⟩ = some (.int .i64 d.now) ∧ W.frozen? ⟨a, 770, none⟩ = false := h.cell (770 + 0) (tail_at d pv nv h.1 0)
theorem DBlk.snow {W : World} {a : Nat} {d : Dec} {pv nv : Value} (h : DBlk W a d pv nv) (u : Int) : DBlk (W.setCell ⟨a, 770, none⟩ (.int .i64 u)) a { d with now := u } pv nv := h.set 770 _ h.1 (cells_set d pv nv _ h.1 0)
theorem DBlk.fx {W : World} {a : Nat} {d : Dec} {pv nv : Value} (h : DBlk W a d pv nv) : W.cell? ⟨a, 771, none⟩ = some (.int .i64 d.x) ∧ W.frozen? ⟨a, 771, none⟩ = false := h.cell (770 + 1) (tail_at d pv nv h.1 1)
theorem DBlk.sx {W : World} {a : Nat} {d : Dec} {pv nv : Value} (h : DBlk W a d pv nv) (u : Int) : DBlk (W.setCell ⟨a, 771, none⟩ (.int .i64 u)) a { d with x := u } pv nv := h.set 771 _ h.1 (cells_set d pv nv _ h.1 1)
theorem DBlk.fy {W : World} {a : Nat} {d : Dec} {pv nv : Value} (h : DBlk W a d pv nv) : W.cell? ⟨a, 772, none⟩ = some (.int .i64 d.y) ∧ W.frozen? ⟨a, 772, none⟩ = false := h.cell (770 + 2) (tail_at d pv nv h.1 2)
theorem DBlk.sy {W : World} {a : Nat} {d : Dec} {pv nv : Value} (h : DBlk W a d pv nv) (u : Int) : DBlk (W.setCell ⟨a, 772, none⟩ (.int .i64 u)) a { d with y := u } pv nv := h.set 772 _ h.1 (cells_set d pv nv _ h.1 2)
theorem DBlk.fw {W : World} {a : Nat} {d : Dec} {pv nv : Value} (h : DBlk W a d pv nv) : W.cell? ⟨a, 773, none⟩ = some (.int .i64 d.w) ∧ W.frozen? ⟨a, 773, none⟩ = false := h.cell (770 + 3) (tail_at d pv nv h.1 3)
theorem DBlk.sw {W : World} {a : Nat} {d : Dec} {pv nv : Value} (h : DBlk W a d pv nv) (u : Int) : DBlk (W.setCell ⟨a, 773, none⟩ (.int .i64 u)) a { d with w := u } pv nv := h.set 773 _ h.1 (cells_set d pv nv _ h.1 3)
theorem DBlk.fh {W : World} {a : Nat} {d : Dec} {pv nv : Value} (h : DBlk W a d pv nv) : W.cell? ⟨a, 774, none⟩ = some (.int .i64 d.h) ∧ W.frozen? ⟨a, 774, none⟩ = false := h.cell (770 + 4) (tail_at d pv nv h.1 4)
theorem DBlk.sh {W : World} {a : Nat} {d : Dec} {pv nv : Value} (h : DBlk W a d pv nv) (u : Int) : DBlk (W.setCell ⟨a, 774, none⟩ (.int .i64 u)) a { d with h := u } pv nv := h.set 774 _ h.1 (cells_set d pv nv _ h.1 4)
theorem DBlk.fp {W : World} {a : Nat} {d : Dec} {pv nv : Value} (h : DBlk W a d pv nv) : W.cell? ⟨a, 775, none⟩ = some (pv) ∧ W.frozen? ⟨a, 775, none⟩ = false := h.cell (770 + 5) (tail_at d pv nv h.1 5)
theorem DBlk.sp {W : World} {a : Nat} {d : Dec} {pv nv : Value} (h : DBlk W a d pv nv) (pv' : Value) (u : List Int) : DBlk (W.setCell ⟨a, 775, none⟩ pv') a { d with p := u } pv' nv := h.set 775 _ h.1 (cells_set d pv nv _ h.1 5)
theorem DBlk.fdrawn {W : World} {a : Nat} {d : Dec} {pv nv : Value} (h : DBlk W a d pv nv) : W.cell? ⟨a, 776, none⟩ = some (.bool d.drawn) ∧ W.frozen? ⟨a, 776, none⟩ = false := h.cell (770 + 6) (tail_at d pv nv h.1 6)
theorem DBlk.sdrawn {W : World} {a : Nat} {d : Dec} {pv nv : Value} (h : DBlk W a d pv nv) (u : Bool) : DBlk (W.setCell ⟨a, 776, none⟩ (.bool u)) a { d with drawn := u } pv nv := h.set 776 _ h.1 (cells_set d pv nv _ h.1 6)
theorem DBlk.fdown {W : World} {a : Nat} {d : Dec} {pv nv : Value} (h : DBlk W a d pv nv) : W.cell? ⟨a, 777, none⟩ = some (.bool d.down) ∧ W.frozen? ⟨a, 777, none⟩ = false := h.cell (770 + 7) (tail_at d pv nv h.1 7)
theorem DBlk.sdown {W : World} {a : Nat} {d : Dec} {pv nv : Value} (h : DBlk W a d pv nv) (u : Bool) : DBlk (W.setCell ⟨a, 777, none⟩ (.bool u)) a { d with down := u } pv nv := h.set 777 _ h.1 (cells_set d pv nv _ h.1 7)
theorem DBlk.ffull {W : World} {a : Nat} {d : Dec} {pv nv : Value} (h : DBlk W a d pv nv) : W.cell? ⟨a, 778, none⟩ = some (.bool d.full) ∧ W.frozen? ⟨a, 778, none⟩ = false := h.cell (770 + 8) (tail_at d pv nv h.1 8)
theorem DBlk.sfull {W : World} {a : Nat} {d : Dec} {pv nv : Value} (h : DBlk W a d pv nv) (u : Bool) : DBlk (W.setCell ⟨a, 778, none⟩ (.bool u)) a { d with full := u } pv nv := h.set 778 _ h.1 (cells_set d pv nv _ h.1 8)
theorem DBlk.fover {W : World} {a : Nat} {d : Dec} {pv nv : Value} (h : DBlk W a d pv nv) : W.cell? ⟨a, 779, none⟩ = some (.bool d.over) ∧ W.frozen? ⟨a, 779, none⟩ = false := h.cell (770 + 9) (tail_at d pv nv h.1 9)
theorem DBlk.sover {W : World} {a : Nat} {d : Dec} {pv nv : Value} (h : DBlk W a d pv nv) (u : Bool) : DBlk (W.setCell ⟨a, 779, none⟩ (.bool u)) a { d with over := u } pv nv := h.set 779 _ h.1 (cells_set d pv nv _ h.1 9)
theorem DBlk.fcmd {W : World} {a : Nat} {d : Dec} {pv nv : Value} (h : DBlk W a d pv nv) : W.cell? ⟨a, 780, none⟩ = some (.int .u8 d.cmd) ∧ W.frozen? ⟨a, 780, none⟩ = false := h.cell (770 + 10) (tail_at d pv nv h.1 10)
theorem DBlk.scmd {W : World} {a : Nat} {d : Dec} {pv nv : Value} (h : DBlk W a d pv nv) (u : Int) : DBlk (W.setCell ⟨a, 780, none⟩ (.int .u8 u)) a { d with cmd := u } pv nv := h.set 780 _ h.1 (cells_set d pv nv _ h.1 10)
theorem DBlk.fn {W : World} {a : Nat} {d : Dec} {pv nv : Value} (h : DBlk W a d pv nv) : W.cell? ⟨a, 781, none⟩ = some (nv) ∧ W.frozen? ⟨a, 781, none⟩ = false := h.cell (770 + 11) (tail_at d pv nv h.1 11)
theorem DBlk.sn {W : World} {a : Nat} {d : Dec} {pv nv : Value} (h : DBlk W a d pv nv) (nv' : Value) (u : List Int) : DBlk (W.setCell ⟨a, 781, none⟩ nv') a { d with n := u } pv nv' := h.set 781 _ h.1 (cells_set d pv nv _ h.1 11)
theorem DBlk.fv {W : World} {a : Nat} {d : Dec} {pv nv : Value} (h : DBlk W a d pv nv) : W.cell? ⟨a, 782, none⟩ = some (.int .i64 d.v) ∧ W.frozen? ⟨a, 782, none⟩ = false := h.cell (770 + 12) (tail_at d pv nv h.1 12)
theorem DBlk.sv {W : World} {a : Nat} {d : Dec} {pv nv : Value} (h : DBlk W a d pv nv) (u : Int) : DBlk (W.setCell ⟨a, 782, none⟩ (.int .i64 u)) a { d with v := u } pv nv := h.set 782 _ h.1 (cells_set d pv nv _ h.1 12)
theorem DBlk.frep {W : World} {a : Nat} {d : Dec} {pv nv : Value} (h : DBlk W a d pv nv) : W.cell? ⟨a, 783, none⟩ = some (.int .i64 d.rep) ∧ W.frozen? ⟨a, 783, none⟩ = false := h.cell (770 + 13) (tail_at d pv nv h.1 13)
theorem DBlk.srep {W : World} {a : Nat} {d : Dec} {pv nv : Value} (h : DBlk W a d pv nv) (u : Int) : DBlk (W.setCell ⟨a, 783, none⟩ (.int .i64 u)) a { d with rep := u } pv nv := h.set 783 _ h.1 (cells_set d pv nv _ h.1 13)
/-- A decoder with its rows; G: the blocks that it owns. -/
def DOwn (G : Nat → Prop) (W : World) (a : Nat) (d : Dec) : Prop :=
  ∃ pv nv, DBlk W a d pv nv ∧ Own .u8 5 W pv d.p ∧ Own .i64 3 W nv d.n ∧ pv.ownBlock ≠ some a ∧ nv.ownBlock ≠ some a ∧ (∀ b, pv.ownBlock = some b → nv.ownBlock ≠ some b) ∧ ∀ i, G i ↔ i = a ∨ pv.ownBlock = some i ∨ nv.ownBlock = some i
theorem DOwn.lt {G : Nat → Prop} {W : World} {a : Nat} {d : Dec} (h : DOwn G W a d) : ∀ i, G i → i < W.heap.size := by
  obtain ⟨pv, nv, hb, hp, hn, -, -, -, hG⟩ := h
  intro i hi
  rcases (hG i).1 hi with rfl | h | h
  · exact hb.lt
  · exact hp.lt i h
  · exact hn.lt i h
theorem DOwn.kept {G S : Nat → Prop} {w w' : World} {a : Nat} {d : Dec} (h : DOwn G w a d) (hk : Kept S w w') (hS : ∀ i, G i → ¬ S i) : DOwn G w' a d := by
  obtain ⟨pv, nv, hb, hp, hn, h1, h2, h3, hG⟩ := h
  exact ⟨pv, nv, hb.kept hk (hS a ((hG a).2 (.inl rfl))), hp.kept hk (fun b hb => hS b ((hG b).2 (.inr (.inl hb)))), hn.kept hk (fun b hb => hS b ((hG b).2 (.inr (.inr hb)))), h1, h2, h3, hG⟩
/-- What a method does: the decoder is d' afterwards, nothing else that was there has changed. -/
def Turn (G : Nat → Prop) (w w' : World) (a : Nat) (d' : Dec) : Prop := ∃ G', DOwn G' w' a d' ∧ (∀ i, G' i → G i ∨ w.heap.size ≤ i) ∧ Kept G w w'
theorem Turn.refl {G : Nat → Prop} {w : World} {a : Nat} {d : Dec} (h : DOwn G w a d) : Turn G w w a d := ⟨G, h, fun _ h => .inl h, Kept.refl _ _⟩
theorem Turn.then {G G1 : Nat → Prop} {w w1 w2 : World} {a : Nat} {d2 : Dec} (hs : ∀ i, G1 i → G i ∨ w.heap.size ≤ i) (hk : Kept G w w1) (h : Turn G1 w1 w2 a d2) : Turn G w w2 a d2 := by
  obtain ⟨G2, h1, h2, h3⟩ := h
  refine ⟨G2, h1, fun i hi => ?_, hk.trans (h3.mono fun i _ hi => hs i hi)⟩
  rcases h2 i hi with h | h
  · exact hs i h
  · right; have := hk.size; omega

/-- A plain field is set. -/
theorem DOwn.set {G : Nat → Prop} {W : World} {a i : Nat} {d d' : Dec} {u : Value} (h : DOwn G W a d) (hs : ∀ pv nv, DBlk W a d pv nv → DBlk (W.setCell ⟨a, i, none⟩ u) a d' pv nv) (hp : d'.p = d.p) (hn : d'.n = d.n) : DOwn G (W.setCell ⟨a, i, none⟩ u) a d' := by
  obtain ⟨pv, nv, hb, h1, h2, h3, h4, h5, hG⟩ := h
  have hk : Kept (fun j => j = a) W (W.setCell ⟨a, i, none⟩ u) := (Kept.refl (fun j => j = a) W).setCell (p := ⟨a, i, none⟩) (.inl rfl) u
  exact ⟨pv, nv, hs pv nv hb, by rw [hp]; exact h1.kept hk (fun b hb hba => h3 (by rw [hb]; exact congrArg some hba)), by rw [hn]; exact h2.kept hk (fun b hb hba => h4 (by rw [hb]; exact congrArg some hba)), h3, h4, h5, hG⟩
theorem Turn.set {G : Nat → Prop} {w W : World} {a i : Nat} {d d' : Dec} {u : Value} (h : Turn G w W a d) (hs : ∀ pv nv, DBlk W a d pv nv → DBlk (W.setCell ⟨a, i, none⟩ u) a d' pv nv) (hp : d'.p = d.p) (hn : d'.n = d.n) : Turn G w (W.setCell ⟨a, i, none⟩ u) a d' := by
  obtain ⟨G', h1, h2, h3⟩ := h
  have ha : G' a := by obtain ⟨pv, nv, -, -, -, -, -, -, hG⟩ := h1; exact (hG a).2 (.inl rfl)
  exact ⟨G', h1.set hs hp hn, h2, h3.setCell (p := ⟨a, i, none⟩) (h2 a ha) u⟩
theorem Turn.up {G : Nat → Prop} {w W W' : World} {a : Nat} {d : Dec} (h : Turn G w W a d) (hk : Kept (fun _ => False) W W') : Turn G w W' a d := by
  obtain ⟨G', h1, h2, h3⟩ := h
  exact ⟨G', h1.kept hk (fun _ _ => id), h2, h3.then (hk.mono fun _ _ h => h.elim)⟩
/-- The numbers are another list, in this block or in a new one. -/
theorem turn_n {G : Nat → Prop} {W wa w5 : World} {a : Nat} {d : Dec} {pv nv v5 : Value} {ns : List Int} (hb : DBlk W a d pv nv) (hp : Own .u8 5 W pv d.p) (h1 : pv.ownBlock ≠ some a) (h2 : nv.ownBlock ≠ some a) (h3 : ∀ b, pv.ownBlock = some b → nv.ownBlock ≠ some b)
    (hG : ∀ i, G i ↔ i = a ∨ pv.ownBlock = some i ∨ nv.ownBlock = some i) (hka : Kept (fun _ => False) W wa) (ho5 : Own .i64 3 w5 v5 ns) (hk5 : Kept (fun k => nv.ownBlock = some k) wa w5) (hpr5 : v5.ownBlock = nv.ownBlock ∨ v5.ownBlock = some wa.heap.size) :
    Turn G W (w5.setCell ⟨a, 781, none⟩ v5) a { d with n := ns } := by
  have hza := hka.size
  have haW := hb.lt
  have h5a : v5.ownBlock ≠ some a := by
    intro h
    rcases hpr5 with h' | h'
    · exact h2 (by rw [← h', h])
    · rw [h] at h'; have := Option.some.inj h'; omega
  have hkw : Kept (fun k => nv.ownBlock = some k) W w5 := (hka.mono (fun _ _ h => h.elim)).then hk5
  have hb5 : DBlk w5 a d pv nv := hb.kept hkw h2
  have hk6 : Kept (fun j => j = a) w5 (w5.setCell ⟨a, 781, none⟩ v5) := (Kept.refl (fun j => j = a) w5).setCell (p := ⟨a, 781, none⟩) (.inl rfl) v5
  have hpl := hp.lt
  refine ⟨fun i => i = a ∨ pv.ownBlock = some i ∨ v5.ownBlock = some i, ⟨pv, v5, hb5.sn v5 ns, (hp.kept hkw (fun b hb h => h3 b hb h)).kept hk6 (fun b hb hba => h1 (by rw [hb]; exact congrArg some hba)),
    ho5.kept hk6 (fun b hb hba => h5a (by rw [hb]; exact congrArg some hba)), h1, h5a, ?_, fun _ => Iff.rfl⟩, ?_, ?_⟩
  · intro b hb hv
    rcases hpr5 with h | h
    · exact h3 b hb (by rw [← h, hv])
    · rw [hv] at h; have h9 := Option.some.inj h; have := hpl b hb; omega
  · rintro i (rfl | h | h)
    · exact .inl ((hG _).2 (.inl rfl))
    · exact .inl ((hG _).2 (.inr (.inl h)))
    · rcases hpr5 with h' | h'
      · exact .inl ((hG _).2 (.inr (.inr (by rw [← h', h]))))
      · rw [h] at h'; have := Option.some.inj h'; right; omega
  · exact (hkw.mono (fun i _ hi => (hG i).2 (.inr (.inr hi)))).setCell (p := ⟨a, 781, none⟩) (.inl ((hG a).2 (.inl rfl))) v5
/-- The image is another list, in a new block. -/
theorem turn_p {G : Nat → Prop} {W w5 : World} {a : Nat} {d : Dec} {pv nv v5 : Value} {ps : List Int} (hb : DBlk W a d pv nv) (hn : Own .i64 3 W nv d.n) (h2 : nv.ownBlock ≠ some a)
    (hG : ∀ i, G i ↔ i = a ∨ pv.ownBlock = some i ∨ nv.ownBlock = some i) (hk5 : Kept (fun _ => False) W w5) (ho5 : Own .u8 5 w5 v5 ps) (hpr5 : ∀ b, v5.ownBlock = some b → W.heap.size ≤ b) :
    Turn G W (w5.setCell ⟨a, 775, none⟩ v5) a { d with p := ps } := by
  have haW := hb.lt
  have hnl := hn.lt
  have h5a : v5.ownBlock ≠ some a := fun h => by have := hpr5 a h; omega
  have hk6 : Kept (fun j => j = a) w5 (w5.setCell ⟨a, 775, none⟩ v5) := (Kept.refl (fun j => j = a) w5).setCell (p := ⟨a, 775, none⟩) (.inl rfl) v5
  refine ⟨fun i => i = a ∨ v5.ownBlock = some i ∨ nv.ownBlock = some i, ⟨v5, nv, (hb.kept hk5 id).sp v5 ps, ho5.kept hk6 (fun b hb hba => h5a (by rw [hb]; exact congrArg some hba)),
    (hn.kept hk5 (fun _ _ => id)).kept hk6 (fun b hb hba => h2 (by rw [hb]; exact congrArg some hba)), h5a, h2, ?_, fun _ => Iff.rfl⟩, ?_, ?_⟩
  · intro b hb hv
    have := hpr5 b hb; have := hnl b hv; omega
  · rintro i (rfl | h | h)
    · exact .inl ((hG _).2 (.inl rfl))
    · exact .inr (hpr5 i h)
    · exact .inl ((hG _).2 (.inr (.inr h)))
  · exact (hk5.mono (fun i _ hi => hi.elim)).setCell (p := ⟨a, 775, none⟩) (.inl ((hG a).2 (.inl rfl))) v5
/-- The image's bytes are written where they lie. -/
theorem turn_w {G : Nat → Prop} {W w5 : World} {a : Nat} {d : Dec} {pv nv : Value} {ps : List Int} (hb : DBlk W a d pv nv) (hn : Own .i64 3 W nv d.n) (h1 : pv.ownBlock ≠ some a) (h2 : nv.ownBlock ≠ some a) (h3 : ∀ b, pv.ownBlock = some b → nv.ownBlock ≠ some b)
    (hG : ∀ i, G i ↔ i = a ∨ pv.ownBlock = some i ∨ nv.ownBlock = some i) (hk5 : Kept (fun k => pv.ownBlock = some k) W w5) (ho5 : Own .u8 5 w5 pv ps) : Turn G W w5 a { d with p := ps } :=
  ⟨G, ⟨pv, nv, hb.kept hk5 h1, ho5, hn.kept hk5 (fun b hb h => h3 b h hb), h1, h2, h3, hG⟩, fun _ h => .inl h, hk5.mono (fun i _ hi => (hG i).2 (.inr (.inl hi)))⟩

end Go.Proofs.Ytomcjdonacckfaa
