/- Several texts in one: DrwD, CompD, DrawD, Known, PicP. -/
import Derived.Test.YtdjgmhbfohbenaaGlsD
import Derived.Test.YtdjgmhbfohbenaaCurD
namespace Go.Proofs.Ytdjgmhbfohbenaa
open Go.RowKit Go.Sort Pl
set_option linter.unusedVariables false
set_option linter.unusedSimpArgs false
/-- The images' layer, by whatever it makes of a picture. -/
def Imgs (s : Sc) (W H n B : Nat) (w0 : World) (img : Bool → List Int → List Int) : Prop :=
  ∀ (above : Bool) (P : List Int) (g : Nat) (w : World), B ≤ g → Kept (fun i => B ≤ i) w0 w → Own .u8 5 w (.slice (some ⟨g, 0, none⟩) n n) P → IsBytes P →
    Calls Try.prog 109 #[.agg #[.int .i64 s.rows, .int .i64 s.cols, .int .i64 s.cw, .int .i64 s.ch, .slice s.la s.ln s.lc, .slice s.pa s.pn s.pc, .map s.im, .int .i64 s.top, .bool s.cur, .int .i64 s.row, .int .i64 s.col, .bool above], .agg #[.int .i64 W, .int .i64 H, .slice (some ⟨g, 0, none⟩) n n]] w fun e w' =>
      e = .returned (.agg #[.int .i64 W, .int .i64 H, .slice (some ⟨g, 0, none⟩) n n]) ∧ Own .u8 5 w' (.slice (some ⟨g, 0, none⟩) n n) (img above P) ∧ Kept (fun i => i = g) w w'
def bytesS (s : String) : ByteArray := s.toUTF8
theorem ta90_92 (vs : Array Value) (w : World) : (Instr.typeAssert (.iface 90 (.agg vs)) 122 92 true).run Try.prog w = .ok (.tuple #[.agg #[.int .i64 0, .int .i64 0, .int .i64 0, .int .i64 0, .slice none 0 0, .slice none 0 0, .map none, .int .i64 0, .bool false, .int .i64 0, .int .i64 0, .bool false], .bool false]) w := by kernel_rfl
theorem ta90_90 (vs : Array Value) (w : World) : (Instr.typeAssert (.iface 90 (.agg vs)) 122 90 true).run Try.prog w = .ok (.tuple #[.agg vs, .bool true]) w := by kernel_rfl
theorem ta90_93 (vs : Array Value) (w : World) : (Instr.typeAssert (.iface 90 (.agg vs)) 122 93 true).run Try.prog w = .ok (.tuple #[.agg #[.int .i64 0, .int .i64 0, .int .i64 0, .int .i64 0, .slice none 0 0, .slice none 0 0, .map none, .int .i64 0, .bool false, .int .i64 0, .int .i64 0], .bool false]) w := by kernel_rfl
theorem ta90_94 (vs : Array Value) (w : World) : (Instr.typeAssert (.iface 90 (.agg vs)) 122 94 true).run Try.prog w = .ok (.tuple #[.agg #[.int .i64 0, .int .i64 0, .int .i64 0, .int .i64 0, .slice none 0 0, .slice none 0 0, .map none, .int .i64 0, .bool false, .int .i64 0, .int .i64 0], .bool false]) w := by kernel_rfl
theorem m_grounds (vs : Array Value) (w : World) : (method 122 90 (.agg vs) "Paint").run Try.prog w = .ok (106, .agg vs) w := by kernel_rfl
set_option maxRecDepth 100000 in
set_option maxHeartbeats 8000000 in
theorem names_grounds (vs : Array Value) (w : World) : Calls Try.prog 55 #[.iface 90 (.agg vs)] w fun e w' => e = .returned (.string ⟨#[99, 101, 108, 108, 115]⟩) ∧ w = w' := by
  have ta92 := ta90_92 vs
  have ta90 := ta90_90 vs
  have ta93 := ta90_93 vs
  have ta94 := ta90_94 vs
  go_enter Try.func55, Try.ntmps55
  go_wp2
  go_ret
  exact ⟨rfl, rfl⟩
theorem ta92_92 (vs : Array Value) (w : World) : (Instr.typeAssert (.iface 92 (.agg vs)) 122 92 true).run Try.prog w = .ok (.tuple #[.agg vs, .bool true]) w := by kernel_rfl
theorem ta92_90 (vs : Array Value) (w : World) : (Instr.typeAssert (.iface 92 (.agg vs)) 122 90 true).run Try.prog w = .ok (.tuple #[.agg #[.int .i64 0, .int .i64 0, .int .i64 0, .int .i64 0, .slice none 0 0, .slice none 0 0, .map none, .int .i64 0, .bool false, .int .i64 0, .int .i64 0], .bool false]) w := by kernel_rfl
theorem ta92_93 (vs : Array Value) (w : World) : (Instr.typeAssert (.iface 92 (.agg vs)) 122 93 true).run Try.prog w = .ok (.tuple #[.agg #[.int .i64 0, .int .i64 0, .int .i64 0, .int .i64 0, .slice none 0 0, .slice none 0 0, .map none, .int .i64 0, .bool false, .int .i64 0, .int .i64 0], .bool false]) w := by kernel_rfl
theorem ta92_94 (vs : Array Value) (w : World) : (Instr.typeAssert (.iface 92 (.agg vs)) 122 94 true).run Try.prog w = .ok (.tuple #[.agg #[.int .i64 0, .int .i64 0, .int .i64 0, .int .i64 0, .slice none 0 0, .slice none 0 0, .map none, .int .i64 0, .bool false, .int .i64 0, .int .i64 0], .bool false]) w := by kernel_rfl
theorem m_images (vs : Array Value) (w : World) : (method 122 92 (.agg vs) "Paint").run Try.prog w = .ok (109, .agg vs) w := by kernel_rfl
set_option maxRecDepth 100000 in
set_option maxHeartbeats 8000000 in
theorem names_images (vs : Array Value) (w : World) : Calls Try.prog 55 #[.iface 92 (.agg vs)] w fun e w' => e = .returned (.string ⟨#[105, 109, 97, 103, 101, 115]⟩) ∧ w = w' := by
  have ta92 := ta92_92 vs
  have ta90 := ta92_90 vs
  have ta93 := ta92_93 vs
  have ta94 := ta92_94 vs
  go_enter Try.func55, Try.ntmps55
  go_wp2
  go_ret
  exact ⟨rfl, rfl⟩
theorem ta93_92 (vs : Array Value) (w : World) : (Instr.typeAssert (.iface 93 (.agg vs)) 122 92 true).run Try.prog w = .ok (.tuple #[.agg #[.int .i64 0, .int .i64 0, .int .i64 0, .int .i64 0, .slice none 0 0, .slice none 0 0, .map none, .int .i64 0, .bool false, .int .i64 0, .int .i64 0, .bool false], .bool false]) w := by kernel_rfl
theorem ta93_90 (vs : Array Value) (w : World) : (Instr.typeAssert (.iface 93 (.agg vs)) 122 90 true).run Try.prog w = .ok (.tuple #[.agg #[.int .i64 0, .int .i64 0, .int .i64 0, .int .i64 0, .slice none 0 0, .slice none 0 0, .map none, .int .i64 0, .bool false, .int .i64 0, .int .i64 0], .bool false]) w := by kernel_rfl
theorem ta93_93 (vs : Array Value) (w : World) : (Instr.typeAssert (.iface 93 (.agg vs)) 122 93 true).run Try.prog w = .ok (.tuple #[.agg vs, .bool true]) w := by kernel_rfl
theorem ta93_94 (vs : Array Value) (w : World) : (Instr.typeAssert (.iface 93 (.agg vs)) 122 94 true).run Try.prog w = .ok (.tuple #[.agg #[.int .i64 0, .int .i64 0, .int .i64 0, .int .i64 0, .slice none 0 0, .slice none 0 0, .map none, .int .i64 0, .bool false, .int .i64 0, .int .i64 0], .bool false]) w := by kernel_rfl
theorem m_glyphs (vs : Array Value) (w : World) : (method 122 93 (.agg vs) "Paint").run Try.prog w = .ok (111, .agg vs) w := by kernel_rfl
set_option maxRecDepth 100000 in
set_option maxHeartbeats 8000000 in
theorem names_glyphs (vs : Array Value) (w : World) : Calls Try.prog 55 #[.iface 93 (.agg vs)] w fun e w' => e = .returned (.string ⟨#[99, 101, 108, 108, 115]⟩) ∧ w = w' := by
  have ta92 := ta93_92 vs
  have ta90 := ta93_90 vs
  have ta93 := ta93_93 vs
  have ta94 := ta93_94 vs
  go_enter Try.func55, Try.ntmps55
  go_wp2
  go_ret
  exact ⟨rfl, rfl⟩
theorem ta94_92 (vs : Array Value) (w : World) : (Instr.typeAssert (.iface 94 (.agg vs)) 122 92 true).run Try.prog w = .ok (.tuple #[.agg #[.int .i64 0, .int .i64 0, .int .i64 0, .int .i64 0, .slice none 0 0, .slice none 0 0, .map none, .int .i64 0, .bool false, .int .i64 0, .int .i64 0, .bool false], .bool false]) w := by kernel_rfl
theorem ta94_90 (vs : Array Value) (w : World) : (Instr.typeAssert (.iface 94 (.agg vs)) 122 90 true).run Try.prog w = .ok (.tuple #[.agg #[.int .i64 0, .int .i64 0, .int .i64 0, .int .i64 0, .slice none 0 0, .slice none 0 0, .map none, .int .i64 0, .bool false, .int .i64 0, .int .i64 0], .bool false]) w := by kernel_rfl
theorem ta94_93 (vs : Array Value) (w : World) : (Instr.typeAssert (.iface 94 (.agg vs)) 122 93 true).run Try.prog w = .ok (.tuple #[.agg #[.int .i64 0, .int .i64 0, .int .i64 0, .int .i64 0, .slice none 0 0, .slice none 0 0, .map none, .int .i64 0, .bool false, .int .i64 0, .int .i64 0], .bool false]) w := by kernel_rfl
theorem ta94_94 (vs : Array Value) (w : World) : (Instr.typeAssert (.iface 94 (.agg vs)) 122 94 true).run Try.prog w = .ok (.tuple #[.agg vs, .bool true]) w := by kernel_rfl
theorem m_cursor (vs : Array Value) (w : World) : (method 122 94 (.agg vs) "Paint").run Try.prog w = .ok (114, .agg vs) w := by kernel_rfl
set_option maxRecDepth 100000 in
set_option maxHeartbeats 8000000 in
theorem names_cursor (vs : Array Value) (w : World) : Calls Try.prog 55 #[.iface 94 (.agg vs)] w fun e w' => e = .returned (.string ⟨#[99, 117, 114, 115, 111, 114]⟩) ∧ w = w' := by
  have ta92 := ta94_92 vs
  have ta90 := ta94_90 vs
  have ta93 := ta94_93 vs
  have ta94 := ta94_94 vs
  go_enter Try.func55, Try.ntmps55
  go_wp2
  go_ret
  exact ⟨rfl, rfl⟩
theorem ta68_92 (vs : Array Value) (w : World) : (Instr.typeAssert (.iface 68 (.agg vs)) 122 92 true).run Try.prog w = .ok (.tuple #[.agg #[.int .i64 0, .int .i64 0, .int .i64 0, .int .i64 0, .slice none 0 0, .slice none 0 0, .map none, .int .i64 0, .bool false, .int .i64 0, .int .i64 0, .bool false], .bool false]) w := by kernel_rfl
theorem ta68_90 (vs : Array Value) (w : World) : (Instr.typeAssert (.iface 68 (.agg vs)) 122 90 true).run Try.prog w = .ok (.tuple #[.agg #[.int .i64 0, .int .i64 0, .int .i64 0, .int .i64 0, .slice none 0 0, .slice none 0 0, .map none, .int .i64 0, .bool false, .int .i64 0, .int .i64 0], .bool false]) w := by kernel_rfl
theorem ta68_93 (vs : Array Value) (w : World) : (Instr.typeAssert (.iface 68 (.agg vs)) 122 93 true).run Try.prog w = .ok (.tuple #[.agg #[.int .i64 0, .int .i64 0, .int .i64 0, .int .i64 0, .slice none 0 0, .slice none 0 0, .map none, .int .i64 0, .bool false, .int .i64 0, .int .i64 0], .bool false]) w := by kernel_rfl
theorem ta68_94 (vs : Array Value) (w : World) : (Instr.typeAssert (.iface 68 (.agg vs)) 122 94 true).run Try.prog w = .ok (.tuple #[.agg #[.int .i64 0, .int .i64 0, .int .i64 0, .int .i64 0, .slice none 0 0, .slice none 0 0, .map none, .int .i64 0, .bool false, .int .i64 0, .int .i64 0], .bool false]) w := by kernel_rfl
theorem m_fill (vs : Array Value) (w : World) : (method 122 68 (.agg vs) "Paint").run Try.prog w = .ok (101, .agg vs) w := by kernel_rfl
set_option maxRecDepth 100000 in
set_option maxHeartbeats 8000000 in
theorem names_fill (vs : Array Value) (w : World) : Calls Try.prog 55 #[.iface 68 (.agg vs)] w fun e w' => e = .returned (.string ⟨#[]⟩) ∧ w = w' := by
  have ta92 := ta68_92 vs
  have ta90 := ta68_90 vs
  have ta93 := ta68_93 vs
  have ta94 := ta68_94 vs
  go_enter Try.func55, Try.ntmps55
  go_wp2
  go_ret
  exact ⟨rfl, rfl⟩
theorem layL_bytes {W H : Nat} {x y bw bh : Int} {c : Rgb} {P : List Int} (hc : c.IsB) (hP : IsBytes P) : IsBytes (layL W H x y bw bh c P) := by
  intro v hv
  obtain ⟨j, hj, rfl⟩ := List.getElem_of_mem hv
  rw [layL_len] at hj
  have h := layL_get (x := x) (y := y) (bw := bw) (bh := bh) (c := c) (P := P) hj
  rw [List.getD_eq_getElem?_getD, List.getElem?_eq_getElem (by rw [layL_len]; exact hj)] at h
  simp only [Option.getD_some] at h
  rw [h]
  obtain ⟨h1, h2, h3⟩ := hc
  split
  · match j % 4, Nat.mod_lt j (show 4 > 0 by omega) with
    | 0, _ => exact h1
    | 1, _ => exact h2
    | 2, _ => exact h3
    | 3, _ => exact ⟨by show (0 : Int) ≤ 255; decide, by show (255 : Int) < 256; decide⟩
  · exact getD_byte hP _
theorem colors_isB (a : Look) : (colors a).1.IsB ∧ (colors a).2.IsB := by
  have h1 := colour_isB a.fg true
  have h2 := colour_isB a.bg false
  have hh : ∀ c : Rgb, c.IsB → c.half.IsB := fun c ⟨⟨p1, p2⟩, ⟨q1, q2⟩, r1, r2⟩ => ⟨⟨by show 0 ≤ c.r / 2; omega, by show c.r / 2 < 256; omega⟩, ⟨by show 0 ≤ c.g / 2; omega, by show c.g / 2 < 256; omega⟩, by show 0 ≤ c.b / 2; omega, by show c.b / 2 < 256; omega⟩
  unfold colors
  simp only
  cases hasB a.fl 2 <;> cases hasB a.fl 32 <;> cases hasB a.fl 64 <;> simp [h1, h2, hh]
theorem rowF_ind {C : List Int → Prop} {step : Nat → Nat → List Int → List Int} (hs : ∀ r c P, C P → C (step r c P)) (row : Nat) : ∀ (k : Nat) {P : List Int}, C P → C (rowF step row k P)
  | 0, _, h => h
  | k + 1, _, h => hs _ _ _ (rowF_ind hs row k h)
theorem eachF_ind {C : List Int → Prop} {step : Nat → Nat → List Int → List Int} (hs : ∀ r c P, C P → C (step r c P)) (cols : Nat) : ∀ (k : Nat) {P : List Int}, C P → C (eachF step cols k P)
  | 0, _, h => h
  | k + 1, _, h => rowF_ind hs k cols (eachF_ind hs cols k h)
theorem boxS_ind {C : List Int → Prop} {L : Int → Int → Int → Int → Rgb → List Int → List Int} (hL : ∀ x y bw bh c P, c.IsB → C P → C (L x y bw bh c P)) (r w h : Int) (a : Look) {P : List Int} (hP : C P) : C (boxS L r w h a P) := by
  obtain ⟨hF, hB⟩ := colors_isB a
  unfold boxS
  simp only
  have h1 : C (if 32 < r then (if 2 < (w + 1) / 2 ∧ 2 < (h + 1) / 2 then L (w / 4 + r % ((w + 1) / 2)) (h / 4 + r / 256 % ((h + 1) / 2)) 1 1 (colors a).2 (L (w / 4) (h / 4) ((w + 1) / 2) ((h + 1) / 2) (colors a).1 P) else L (w / 4) (h / 4) ((w + 1) / 2) ((h + 1) / 2) (colors a).1 P) else P) := by
    split
    · split
      · exact hL _ _ _ _ _ _ hB (hL _ _ _ _ _ _ hF hP)
      · exact hL _ _ _ _ _ _ hF hP
    · exact hP
  split
  · refine hL _ _ _ _ _ _ hF ?_
    split
    · exact hL _ _ _ _ _ _ hF h1
    · exact h1
  · split
    · exact hL _ _ _ _ _ _ hF h1
    · exact h1
theorem gro_bytes (s : Sc) (ls : List (List Cl)) (W H : Nat) {P : List Int} (hP : IsBytes P) : IsBytes (eachF (groF s ls W H) s.cols s.rows P) :=
  eachF_ind (fun r c P hP => by unfold groF; exact layL_bytes (colors_isB _).2 hP) _ _ hP
theorem gls_bytes (s : Sc) (ls : List (List Cl)) (W H : Nat) {P : List Int} (hP : IsBytes P) : IsBytes (eachF (glsF s ls W H) s.cols s.rows P) :=
  eachF_ind (fun r c P hP => by
    unfold glsF
    split
    · exact hP
    · exact boxS_ind (fun x y bw bh c P hc hP => by unfold glsL; exact layL_bytes hc hP) _ _ _ _ hP) _ _ hP
def drawP (s : Sc) (ls : List (List Cl)) (img : Bool → List Int → List Int) (W H n : Nat) (P : List Int) : List Int :=
  curP s W n (img true (eachF (glsF s ls W H) s.cols s.rows (img false (eachF (groF s ls W H) s.cols s.rows P))))
def Sc.valB (s : Sc) (b : Bool) : Value := .agg #[.int .i64 s.rows, .int .i64 s.cols, .int .i64 s.cw, .int .i64 s.ch, .slice s.la s.ln s.lc, .slice s.pa s.pn s.pc, .map s.im, .int .i64 s.top, .bool s.cur, .int .i64 s.row, .int .i64 s.col, .bool b]
/-- What holds of memory while the layers are laid. -/
structure CoI (s : Sc) (ls : List (List Cl)) (B : Nat) (w0 wd : World) (W H n g lb : Nat) (L : List Int) (wr : World) : Prop where
  o : Own .u8 5 wr (.slice (some ⟨g, 0, none⟩) n n) L
  k : Kept (fun i => i = g) wd wr
  m : wr.heap[wd.heap.size]? = some (.cells #[.int .i64 W, .int .i64 H, .slice (some ⟨g, 0, none⟩) n n] 31 (0, 0))
  z : wr.heap[wd.heap.size + 1]? = some (.cells #[.int .i64 0, .int .i64 0, .slice none 0 0] 31 (0, 0))
  l : wr.heap[lb]? = some (.cells #[.iface 90 s.val, .iface 92 (s.valB false), .iface 93 s.val, .iface 92 (s.valB true), .iface 94 s.val] 122 (0, 0))
  w : Kept (fun i => B ≤ i) w0 wr
  s : LinesAt B wr s.la s.ln ls
theorem CoI.kept {s : Sc} {ls : List (List Cl)} {B : Nat} {w0 wd : World} {W H n g lb : Nat} {L : List Int} {wr w2 : World} (h : CoI s ls B w0 wd W H n g lb L wr) (hk : Kept (fun _ => False) wr w2) : CoI s ls B w0 wd W H n g lb L w2 :=
  ⟨h.o.kept hk (fun _ _ => id), h.k.then (hk.mono fun _ _ h => h.elim), hk.blk h.m id, hk.blk h.z id, hk.blk h.l id, h.w.then (hk.mono fun _ _ h => h.elim), h.s.kept hk (fun _ h => h.elim)⟩
theorem CoI.lay {s : Sc} {ls : List (List Cl)} {B : Nat} {w0 wd : World} {W H n g lb : Nat} {L L' : List Int} {wr w2 : World} (h : CoI s ls B w0 wd W H n g lb L wr) (ho : Own .u8 5 w2 (.slice (some ⟨g, 0, none⟩) n n) L') (hk : Kept (fun i => i = g) wr w2) (hg : g < wd.heap.size) (hB : B ≤ g) (hl : lb ≠ g) : CoI s ls B w0 wd W H n g lb L' w2 :=
  ⟨ho, h.k.then hk, hk.blk h.m (fun (h : wd.heap.size = g) => by omega), hk.blk h.z (fun (h : wd.heap.size + 1 = g) => by omega), hk.blk h.l hl, h.w.then (hk.mono fun i _ hi => by have h9 : i = g := hi; omega), h.s.kept hk (fun i hi => by have h9 : i = g := hi; omega)⟩
/-- The matrix's three numbers are written anew, as they were. -/
theorem same3 {w : World} {b : Nat} {x y z : Value} {t : TypeId} (h : w.heap[b]? = some (.cells #[x, y, z] t (0, 0))) : ∃ V1 V2 V3, w.setCell ⟨b, 0, none⟩ x = V1 ∧ V1.setCell ⟨b, 1, none⟩ y = V2 ∧ V2.setCell ⟨b, 2, none⟩ z = V3 ∧ (w.cell? ⟨b, 0, none⟩ = some x ∧ w.frozen? ⟨b, 0, none⟩ = false) ∧ (V1.cell? ⟨b, 1, none⟩ = some y ∧ V1.frozen? ⟨b, 1, none⟩ = false) ∧ (V2.cell? ⟨b, 2, none⟩ = some z ∧ V2.frozen? ⟨b, 2, none⟩ = false) ∧ V3.heap[b]? = some (.cells #[x, y, z] t (0, 0)) ∧ Kept (· = b) w V3 := store3 h x y z
theorem CoI.same {s : Sc} {ls : List (List Cl)} {B : Nat} {w0 wd : World} {W H n g lb : Nat} {L : List Int} {wr w2 : World} (h : CoI s ls B w0 wd W H n g lb L wr) (hb : w2.heap[wd.heap.size]? = some (.cells #[.int .i64 W, .int .i64 H, .slice (some ⟨g, 0, none⟩) n n] 31 (0, 0))) (hk : Kept (fun i => i = wd.heap.size) wr w2) (hg : g < wd.heap.size) (hB : B ≤ wd.heap.size) (hl : lb < wd.heap.size) : CoI s ls B w0 wd W H n g lb L w2 :=
  ⟨h.o.kept hk (fun b hb hS => by have h9 : b = wd.heap.size := hS; have h8 : g = b := (by cases hb; rfl); omega), h.k.trans (hk.mono fun i _ hi => Or.inr (by have h9 : i = wd.heap.size := hi; omega)), hb, hk.blk h.z (fun (h : wd.heap.size + 1 = wd.heap.size) => by omega), hk.blk h.l (fun (h : lb = wd.heap.size) => by omega), h.w.then (hk.mono fun i _ hi => by have h9 : i = wd.heap.size := hi; omega), h.s.kept hk (fun i hi => by have h9 : i = wd.heap.size := hi; omega)⟩
end Go.Proofs.Ytdjgmhbfohbenaa
namespace Go.Proofs.Ytdjgmhbfohbenaa
open Go.RowKit Go.Sort Pl
set_option linter.unusedVariables false
set_option linter.unusedSimpArgs false
set_option maxRecDepth 100000 in
set_option maxHeartbeats 8000000 in
theorem compose_any (s : Sc) (ls : List (List Cl)) (img : Bool → List Int → List Int) (B : Nat) (w0 wd : World) (W H n g lb : Nat) (P : List Int) (hd : Dim s W H n) (hWW : W = s.cols * s.cw) (hHH : H = s.rows * s.ch) (hn0 : 0 < n)
    (hcl : ∀ row col, -2147483648 ≤ (cellS ls row col).r ∧ (cellS ls row col).r ≤ 2147483647) (hlen : s.ln ≤ 9223372036854775807) (himg : Imgs s W H n B w0 img) (hib : ∀ a P, IsBytes P → IsBytes (img a P))
    (hPb : IsBytes P) (hBg : B ≤ g) (hlg : lb ≠ g) (hw0 : Kept (fun i => B ≤ i) w0 wd) (hls : LinesAt B wd s.la s.ln ls) (hBw : B ≤ wd.heap.size)
    (ho : Own .u8 5 wd (.slice (some ⟨g, 0, none⟩) n n) P) (hlb : wd.heap[lb]? = some (.cells #[.iface 90 s.val, .iface 92 (s.valB false), .iface 93 s.val, .iface 92 (s.valB true), .iface 94 s.val] 122 (0, 0))) :
    Calls Try.prog 24 #[.agg #[.int .i64 W, .int .i64 H, .slice (some ⟨g, 0, none⟩) n n], .slice (some ⟨lb, 0, none⟩) 5 5] wd fun e w' => e = .returned (.agg #[.int .i64 W, .int .i64 H, .slice (some ⟨g, 0, none⟩) n n]) ∧ Own .u8 5 w' (.slice (some ⟨g, 0, none⟩) n n) (drawP s ls img W H n P) ∧ Kept (fun i => i = g) wd w' := by
  have hgw := ho.lt g rfl
  have hlw := lt_of_blk hlb
  obtain ⟨V, hV⟩ : ∃ V, (wd.alloc (.cells #[.int .i64 W, .int .i64 H, .slice (some ⟨g, 0, none⟩) n n] 31)).alloc (.cells #[.int .i64 0, .int .i64 0, .slice none 0 0] 31) = V := ⟨_, rfl⟩
  have kV : Kept (fun _ => False) wd V := by rw [← hV]; exact ((Kept.refl _ _).alloc _).alloc _
  have b0 : V.heap[wd.heap.size]? = some (.cells #[.int .i64 W, .int .i64 H, .slice (some ⟨g, 0, none⟩) n n] 31 (0, 0)) := by rw [← hV]; exact blk_alloc (blk_new _ _) _
  have b1 : V.heap[wd.heap.size + 1]? = some (.cells #[.int .i64 0, .int .i64 0, .slice none 0 0] 31 (0, 0)) := by rw [← hV]; exact blk_at _ _ (by simp)
  obtain ⟨P1, hP1⟩ : ∃ x, eachF (groF s ls W H) s.cols s.rows P = x := ⟨_, rfl⟩
  obtain ⟨P2, hP2⟩ : ∃ x, img false P1 = x := ⟨_, rfl⟩
  obtain ⟨P3, hP3⟩ : ∃ x, eachF (glsF s ls W H) s.cols s.rows P2 = x := ⟨_, rfl⟩
  obtain ⟨P4, hP4⟩ : ∃ x, img true P3 = x := ⟨_, rfl⟩
  obtain ⟨P5, hP5⟩ : ∃ x, curP s W n P4 = x := ⟨_, rfl⟩
  have c1 : IsBytes P1 := by rw [← hP1]; exact gro_bytes s ls W H hPb
  have c2 : IsBytes P2 := by rw [← hP2]; exact hib _ _ c1
  have c3 : IsBytes P3 := by rw [← hP3]; exact gls_bytes s ls W H c2
  have c4 : IsBytes P4 := by rw [← hP4]; exact hib _ _ c3
  have hR : drawP s ls img W H n P = P5 := by unfold drawP; rw [hP1, hP2, hP3, hP4, hP5]
  rw [hR]
  have HI0 := Lib.hid (show CoI s ls B w0 wd W H n g lb P V from ⟨ho.kept kV (fun _ _ => id), kV.mono (fun _ _ h => h.elim), b0, b1, kV.blk hlb id, hw0.then (kV.mono fun _ _ h => h.elim), hls.kept kV (fun _ h => h.elim)⟩)
  have HN := Lib.hid (And.intro hgw (And.intro hBg (And.intro hlg (And.intro hlw hBw))))
  have S1 := Lib.hid (fun (w : World) (h : CoI s ls B w0 wd W H n g lb P w) => show Calls Try.prog 106 #[s.val, .agg #[.int .i64 W, .int .i64 H, .slice (some ⟨g, 0, none⟩) n n]] w fun e w' => e = .returned (.agg #[.int .i64 W, .int .i64 H, .slice (some ⟨g, 0, none⟩) n n]) ∧ Own .u8 5 w' (.slice (some ⟨g, 0, none⟩) n n) P1 ∧ Kept (fun i => i = g) w w' from by rw [← hP1]; exact grounds_any B s ls W H n g P w hd h.s hlen hBg h.o)
  have S2 := Lib.hid (fun (w : World) (h : CoI s ls B w0 wd W H n g lb P1 w) => show Calls Try.prog 109 #[s.valB false, .agg #[.int .i64 W, .int .i64 H, .slice (some ⟨g, 0, none⟩) n n]] w fun e w' => e = .returned (.agg #[.int .i64 W, .int .i64 H, .slice (some ⟨g, 0, none⟩) n n]) ∧ Own .u8 5 w' (.slice (some ⟨g, 0, none⟩) n n) P2 ∧ Kept (fun i => i = g) w w' from by rw [← hP2]; exact himg false P1 g w hBg h.w h.o c1)
  have S3 := Lib.hid (fun (w : World) (h : CoI s ls B w0 wd W H n g lb P2 w) => show Calls Try.prog 111 #[s.val, .agg #[.int .i64 W, .int .i64 H, .slice (some ⟨g, 0, none⟩) n n]] w fun e w' => e = .returned (.agg #[.int .i64 W, .int .i64 H, .slice (some ⟨g, 0, none⟩) n n]) ∧ Own .u8 5 w' (.slice (some ⟨g, 0, none⟩) n n) P3 ∧ Kept (fun i => i = g) w w' from by rw [← hP3]; exact glyphs_any B s ls W H n g P2 w hd h.s hlen hBg hcl h.o)
  have S4 := Lib.hid (fun (w : World) (h : CoI s ls B w0 wd W H n g lb P3 w) => show Calls Try.prog 109 #[s.valB true, .agg #[.int .i64 W, .int .i64 H, .slice (some ⟨g, 0, none⟩) n n]] w fun e w' => e = .returned (.agg #[.int .i64 W, .int .i64 H, .slice (some ⟨g, 0, none⟩) n n]) ∧ Own .u8 5 w' (.slice (some ⟨g, 0, none⟩) n n) P4 ∧ Kept (fun i => i = g) w w' from by rw [← hP4]; exact himg true P3 g w hBg h.w h.o c3)
  have S5 := Lib.hid (fun (w : World) (h : CoI s ls B w0 wd W H n g lb P4 w) => show Calls Try.prog 114 #[s.val, .agg #[.int .i64 W, .int .i64 H, .slice (some ⟨g, 0, none⟩) n n]] w fun e w' => e = .returned (.agg #[.int .i64 W, .int .i64 H, .slice (some ⟨g, 0, none⟩) n n]) ∧ Own .u8 5 w' (.slice (some ⟨g, 0, none⟩) n n) P5 ∧ Kept (fun i => i = g) w w' from by rw [← hP5]; exact cursor_any s W H n g P4 w hd hWW hHH c4 h.o)
  obtain ⟨CS, hCS⟩ : ∃ C : Array Value, C = #[.int .i64 s.rows, .int .i64 s.cols, .int .i64 s.cw, .int .i64 s.ch, .slice s.la s.ln s.lc, .slice s.pa s.pn s.pc, .map s.im, .int .i64 s.top, .bool s.cur, .int .i64 s.row, .int .i64 s.col] := ⟨_, rfl⟩
  obtain ⟨CF, hCF⟩ : ∃ C : Array Value, C = #[.int .i64 s.rows, .int .i64 s.cols, .int .i64 s.cw, .int .i64 s.ch, .slice s.la s.ln s.lc, .slice s.pa s.pn s.pc, .map s.im, .int .i64 s.top, .bool s.cur, .int .i64 s.row, .int .i64 s.col, .bool false] := ⟨_, rfl⟩
  obtain ⟨CT, hCT⟩ : ∃ C : Array Value, C = #[.int .i64 s.rows, .int .i64 s.cols, .int .i64 s.cw, .int .i64 s.ch, .slice s.la s.ln s.lc, .slice s.pa s.pn s.pc, .map s.im, .int .i64 s.top, .bool s.cur, .int .i64 s.row, .int .i64 s.col, .bool true] := ⟨_, rfl⟩
  have eS : s.val = .agg CS := by rw [hCS]; rfl
  have eF : s.valB false = .agg CF := by rw [hCF]; rfl
  have eT : s.valB true = .agg CT := by rw [hCT]; rfl
  rw [eS] at S1 S3 S5
  rw [eF] at S2
  rw [eT] at S4
  have HL := Lib.hid (fun (L : List Int) (w : World) (h : CoI s ls B w0 wd W H n g lb L w) => show w.heap[lb]? = some (.cells #[.iface 90 (.agg CS), .iface 92 (.agg CF), .iface 93 (.agg CS), .iface 92 (.agg CT), .iface 94 (.agg CS)] 122 (0, 0)) from by have h2 := h.l; rw [eS, eF, eT] at h2; exact h2)
  have g0 : decide (0 < n) = true := decide_eq_true hn0
  have g0' : decide ((0 : Int) < (n : Int)) = true := decide_eq_true (by omega)
  clear hCS hCF hCT eS eF eT hd hWW hHH hn0 hcl hlen himg hib hPb hBg hlg hw0 hls hBw ho hlb hgw hlw kV b0 b1 hP1 hP2 hP3 hP4 hP5 c1 c2 c3 c4 hR
  obtain ⟨y0, y1, y2, y3, y4⟩ := blk5 (HL.out _ _ HI0.out)
  obtain ⟨⟨d0, -⟩, ⟨d1, -⟩, d2, -⟩ := blk3 HI0.out.m
  have mm0 := m_grounds
  have mm1 := m_images
  have mm2 := m_glyphs
  have mm3 := m_cursor
  go_enter Try.func24, Try.ntmps24
  go_wp2
  refine wp_loop_rounds 6 ?_
  rw [rounds_succ]
  go_wp2_with fail
  refine (names_grounds CS _).mono ?_
  rintro e w' ⟨rfl, rfl⟩
  go_wp2_with fail
  refine (S1.out _ HI0.out).mono ?_
  rintro e w' ⟨rfl, ho, hk⟩
  have hJ := HI0.out.lay ho hk HN.out.1 HN.out.2.1 HN.out.2.2.1
  obtain ⟨U1, U2, U3, f1, f2, f3, ⟨q0, q0'⟩, ⟨q1, q1'⟩, ⟨q2, q2'⟩, bU, kU⟩ := same3 hJ.m
  have HI1 := Lib.hid (hJ.same bU kU HN.out.1 HN.out.2.2.2.2 HN.out.2.2.2.1)
  clear ho hk hJ bU kU y0 y1 y2 y3 y4 d0 d1 d2
  go_wp2
  clear q0 q0' q1 q1' q2 q2' f1 f2 f3
  obtain ⟨y0, y1, y2, y3, y4⟩ := blk5 (HL.out _ _ HI1.out)
  obtain ⟨⟨d0, -⟩, ⟨d1, -⟩, d2, -⟩ := blk3 HI1.out.m
  rw [rounds_succ]
  go_wp2_with fail
  refine (names_images CF _).mono ?_
  rintro e w' ⟨rfl, rfl⟩
  go_wp2_with fail
  refine (S2.out _ HI1.out).mono ?_
  rintro e w' ⟨rfl, ho, hk⟩
  have hJ := HI1.out.lay ho hk HN.out.1 HN.out.2.1 HN.out.2.2.1
  obtain ⟨U1, U2, U3, f1, f2, f3, ⟨q0, q0'⟩, ⟨q1, q1'⟩, ⟨q2, q2'⟩, bU, kU⟩ := same3 hJ.m
  have HI2 := Lib.hid (hJ.same bU kU HN.out.1 HN.out.2.2.2.2 HN.out.2.2.2.1)
  clear ho hk hJ bU kU y0 y1 y2 y3 y4 d0 d1 d2
  go_wp2
  clear q0 q0' q1 q1' q2 q2' f1 f2 f3
  obtain ⟨y0, y1, y2, y3, y4⟩ := blk5 (HL.out _ _ HI2.out)
  obtain ⟨⟨d0, -⟩, ⟨d1, -⟩, d2, -⟩ := blk3 HI2.out.m
  rw [rounds_succ]
  go_wp2_with fail
  refine (names_glyphs CS _).mono ?_
  rintro e w' ⟨rfl, rfl⟩
  go_wp2_with fail
  refine (S3.out _ HI2.out).mono ?_
  rintro e w' ⟨rfl, ho, hk⟩
  have hJ := HI2.out.lay ho hk HN.out.1 HN.out.2.1 HN.out.2.2.1
  obtain ⟨U1, U2, U3, f1, f2, f3, ⟨q0, q0'⟩, ⟨q1, q1'⟩, ⟨q2, q2'⟩, bU, kU⟩ := same3 hJ.m
  have HI3 := Lib.hid (hJ.same bU kU HN.out.1 HN.out.2.2.2.2 HN.out.2.2.2.1)
  clear ho hk hJ bU kU y0 y1 y2 y3 y4 d0 d1 d2
  go_wp2
  clear q0 q0' q1 q1' q2 q2' f1 f2 f3
  obtain ⟨y0, y1, y2, y3, y4⟩ := blk5 (HL.out _ _ HI3.out)
  obtain ⟨⟨d0, -⟩, ⟨d1, -⟩, d2, -⟩ := blk3 HI3.out.m
  rw [rounds_succ]
  go_wp2_with fail
  refine (names_images CT _).mono ?_
  rintro e w' ⟨rfl, rfl⟩
  go_wp2_with fail
  refine (S4.out _ HI3.out).mono ?_
  rintro e w' ⟨rfl, ho, hk⟩
  have hJ := HI3.out.lay ho hk HN.out.1 HN.out.2.1 HN.out.2.2.1
  obtain ⟨U1, U2, U3, f1, f2, f3, ⟨q0, q0'⟩, ⟨q1, q1'⟩, ⟨q2, q2'⟩, bU, kU⟩ := same3 hJ.m
  have HI4 := Lib.hid (hJ.same bU kU HN.out.1 HN.out.2.2.2.2 HN.out.2.2.2.1)
  clear ho hk hJ bU kU y0 y1 y2 y3 y4 d0 d1 d2
  go_wp2
  clear q0 q0' q1 q1' q2 q2' f1 f2 f3
  obtain ⟨y0, y1, y2, y3, y4⟩ := blk5 (HL.out _ _ HI4.out)
  obtain ⟨⟨d0, -⟩, ⟨d1, -⟩, d2, -⟩ := blk3 HI4.out.m
  rw [rounds_succ]
  go_wp2_with fail
  refine (names_cursor CS _).mono ?_
  rintro e w' ⟨rfl, rfl⟩
  go_wp2_with fail
  refine (S5.out _ HI4.out).mono ?_
  rintro e w' ⟨rfl, ho, hk⟩
  have hJ := HI4.out.lay ho hk HN.out.1 HN.out.2.1 HN.out.2.2.1
  obtain ⟨U1, U2, U3, f1, f2, f3, ⟨q0, q0'⟩, ⟨q1, q1'⟩, ⟨q2, q2'⟩, bU, kU⟩ := same3 hJ.m
  have HI5 := Lib.hid (hJ.same bU kU HN.out.1 HN.out.2.2.2.2 HN.out.2.2.2.1)
  clear ho hk hJ bU kU y0 y1 y2 y3 y4 d0 d1 d2
  go_wp2
  clear q0 q0' q1 q1' q2 q2' f1 f2 f3
  obtain ⟨y0, y1, y2, y3, y4⟩ := blk5 (HL.out _ _ HI5.out)
  obtain ⟨⟨d0, -⟩, ⟨d1, -⟩, d2, -⟩ := blk3 HI5.out.m
  rw [rounds_succ]
  obtain ⟨U1, U2, U3, f1, f2, f3, ⟨q0, q0'⟩, ⟨q1, q1'⟩, ⟨q2, q2'⟩, bU, kU⟩ := store3 HI5.out.z (.int .i64 W) (.int .i64 H) (.slice (some ⟨g, 0, none⟩) n n)
  obtain ⟨⟨m0, -⟩, ⟨m1, -⟩, m2, -⟩ := blk3 bU
  have HE := Lib.hid (And.intro (HI5.out.o.kept kU (fun b hb hS => by have h9 : b = wd.heap.size + 1 := hS; have h8 : g = b := (by cases hb; rfl); have := HN.out.1; omega)) (HI5.out.k.trans (kU.mono fun i _ hi => Or.inr (by have h9 : i = wd.heap.size + 1 := hi; omega))))
  clear bU kU
  go_wp2
  exact bodyPost_ret (v := .agg #[.int .i64 W, .int .i64 H, .slice (some ⟨g, 0, none⟩) n n]) (by simp [results, Try.results24, go_sem, m0, m1, m2]) rfl ⟨rfl, HE.out⟩
end Go.Proofs.Ytdjgmhbfohbenaa
namespace Go.Proofs.Ytdjgmhbfohbenaa
open Go.RowKit Go.Sort Pl
set_option linter.unusedVariables false
set_option linter.unusedSimpArgs false
set_option maxRecDepth 100000 in
set_option maxHeartbeats 8000000 in
theorem draw_yes (s : Sc) (ls : List (List Cl)) (img : Bool → List Int → List Int) (wd : World) (W H n : Nat) (hd : Dim s W H n) (hr : 1 ≤ s.rows) (hc : 1 ≤ s.cols) (hWW : W = s.cols * s.cw) (hHH : H = s.rows * s.ch)
    (hcl : ∀ row col, -2147483648 ≤ (cellS ls row col).r ∧ (cellS ls row col).r ≤ 2147483647) (hlen : s.ln ≤ 9223372036854775807) (himg : Imgs s W H n wd.heap.size wd img) (hib : ∀ a P, IsBytes P → IsBytes (img a P))
    (hls : LinesAt wd.heap.size wd s.la s.ln ls) :
    Calls Try.prog 11 #[s.val] wd fun e w' => ∃ g : Nat, e = .returned (.tuple #[mat W H (some ⟨g, 0, none⟩) n n, .int .i64 0]) ∧ wd.heap.size ≤ g ∧ Own .u8 5 w' (.slice (some ⟨g, 0, none⟩) n n) (drawP s ls img W H n (List.replicate n 0)) ∧ Kept (fun _ => False) wd w' := by
  have hd1 := hd.rows
  have hd2 := hd.cols
  have hd3 := hd.cw
  have hd4 := hd.ch
  have hW1 : 1 ≤ W := by rw [hWW]; exact Nat.mul_pos (by omega) (by omega)
  have hH1 : 1 ≤ H := by rw [hHH]; exact Nat.mul_pos (by omega) (by omega)
  have hWH : 1 ≤ W * H := Nat.mul_pos hW1 hH1
  have hn0 : 0 < n := by have := hd.bn; omega
  have hsz : sizeB W H = true := by
    unfold sizeB
    have h1 := hd.bW
    have h2 := hd.bH
    have h3 := hd.bn
    have h4 := hd.bn2
    refine decide_eq_true (.inr ⟨by omega, by omega, by omega, by omega, ?_⟩)
    rw [show (W : Int) * (H : Int) = ((W * H : Nat) : Int) by simp]; omega
  have HNEW := Lib.hid (fun w => show Calls Try.prog 33 #[.int .i64 W, .int .i64 H] w fun e w' => ∃ g, e = .returned (.tuple #[.agg #[.int .i64 W, .int .i64 H, .slice (some ⟨g, 0, none⟩) n n], .int .i64 0]) ∧ w.heap.size ≤ g ∧ Own .u8 5 w' (.slice (some ⟨g, 0, none⟩) n n) (List.replicate n 0) ∧ Kept (fun _ => False) w w' from (new_yes W H w hsz).mono fun e w' ⟨g, k, hk, he, h1, h2, h3⟩ => by
    have h5 := hd.bn
    obtain rfl : k = n := by
      rw [Int.mul_assoc, show (W : Int) * (H : Int) = ((W * H : Nat) : Int) by simp] at hk
      omega
    exact ⟨g, he, h1, h2, h3⟩)
  have HBT := fun (v lo hi : Int) (h1 : lo ≤ v) (h2 : v ≤ hi) (x : World) => show Calls Try.prog 32 #[.int .i64 v, .int .i64 lo, .int .i64 hi] x fun e w' => e = .returned (.bool true) ∧ x = w' from by
    have h := betw_any v lo hi x
    rw [decide_eq_true h1, decide_eq_true h2] at h
    exact h.mono fun _ _ h => ⟨h.1, h.2.symm⟩
  have B1 := Lib.hid (HBT s.rows 1 1000 (by omega) (by omega))
  have B2 := Lib.hid (HBT s.cols 1 1000 (by omega) (by omega))
  have B3 := Lib.hid (HBT s.cw 1 64 (by omega) (by omega))
  have B4 := Lib.hid (HBT s.ch 1 64 (by omega) (by omega))
  have HCO := Lib.hid (fun (w : World) (g lb : Nat) (hg : wd.heap.size ≤ g) (hl : lb ≠ g) (hw0 : Kept (fun i => wd.heap.size ≤ i) wd w) (hlw : LinesAt wd.heap.size w s.la s.ln ls) (hz : wd.heap.size ≤ w.heap.size) (ho : Own .u8 5 w (.slice (some ⟨g, 0, none⟩) n n) (List.replicate n 0)) (hlb : w.heap[lb]? = some (.cells #[.iface 90 s.val, .iface 92 (s.valB false), .iface 93 s.val, .iface 92 (s.valB true), .iface 94 s.val] 122 (0, 0))) =>
    compose_any s ls img wd.heap.size wd w W H n g lb (List.replicate n 0) hd hWW hHH hn0 hcl hlen himg hib (by intro v hv; rw [List.eq_of_mem_replicate hv]; exact ⟨by decide, by decide⟩) hg hl hw0 hlw hz ho hlb)
  obtain ⟨RES, hRES⟩ : ∃ R, drawP s ls img W H n (List.replicate n 0) = R := ⟨_, rfl⟩
  rw [hRES] at HCO ⊢
  have HLS := Lib.hid hls
  have v1 : (s.cols : Int) * (s.cw : Int) = (W : Int) := by rw [hWW]; simp
  have v2 : (s.rows : Int) * (s.ch : Int) = (H : Int) := by rw [hHH]; simp
  have u1 : IntKind.i64.wrap (W : Int) = (W : Int) := IntWalk.i64_in _ (by have := hd.bW; omega)
  have u2 : IntKind.i64.wrap (H : Int) = (H : Int) := IntWalk.i64_in _ (by have := hd.bH; omega)
  obtain ⟨V, hV⟩ : ∃ V, (wd.alloc (.cells s.cs 26)).alloc (.cells #[.int .i64 0, .int .i64 0, .slice none 0 0] 31) = V := ⟨_, rfl⟩
  have kV : Kept (fun _ => False) wd V := by rw [← hV]; exact ((Kept.refl _ _).alloc _).alloc _
  have b0 : V.heap[wd.heap.size]? = some (.cells s.cs 26 (0, 0)) := by rw [← hV]; exact blk_alloc (blk_new _ _) _
  have b1 : V.heap[wd.heap.size + 1]? = some (.cells #[.int .i64 0, .int .i64 0, .slice none 0 0] 31 (0, 0)) := by rw [← hV]; exact blk_at _ _ (by simp)
  have H0 := Lib.hid (And.intro kV (And.intro b0 b1))
  obtain ⟨x0, x1, x2, x3, x4, x5, x6, x7, x8, x9, x10⟩ := blk11 b0
  obtain ⟨rows, cols, cw, ch, la, ln, lc, pa, pn, pc, im, top, cur, row, col⟩ := s
  unfold Sc.cs at hV H0
  unfold Sc.val Sc.valB at HCO
  unfold Sc.val
  simp only at x0 x1 x2 x3 x4 x5 x6 x7 x8 x9 x10 hV B1 B2 B3 B4 v1 v2 HLS ⊢
  clear hd hr hc hWW hHH hcl hlen himg hib hls hW1 hH1 hWH hn0 hsz HBT hRES kV b0 b1 hd1 hd2 hd3 hd4
  go_enter Try.func11, Try.ntmps11
  go_wp2_with (go_at_call 32; first | ((with_reducible refine (B1.out _).mono ?_); rintro e w' ⟨rfl, rfl⟩) | ((with_reducible refine (B2.out _).mono ?_); rintro e w' ⟨rfl, rfl⟩) | ((with_reducible refine (B3.out _).mono ?_); rintro e w' ⟨rfl, rfl⟩) | ((with_reducible refine (B4.out _).mono ?_); rintro e w' ⟨rfl, rfl⟩))
  refine (HNEW.out _).mono ?_
  rintro e w1 ⟨g, rfl, hg, ho, hk1⟩
  obtain ⟨V1, hV1⟩ : ∃ V, w1.alloc (.cells #[.int .i64 W, .int .i64 H, .slice (some ⟨g, 0, none⟩) n n] 31) = V := ⟨_, rfl⟩
  have k1 : Kept (fun _ => False) w1 V1 := by rw [← hV1]; exact (Kept.refl _ _).alloc _
  have c0 : V1.heap[w1.heap.size]? = some (.cells #[.int .i64 W, .int .i64 H, .slice (some ⟨g, 0, none⟩) n n] 31 (0, 0)) := by rw [← hV1]; exact blk_new _ _
  obtain ⟨V2, hV2⟩ : ∃ V, V1.alloc (.cells #[.iface 90 (.agg #[.int .i64 rows, .int .i64 cols, .int .i64 cw, .int .i64 ch, .slice la ln lc, .slice pa pn pc, .map im, .int .i64 top, .bool cur, .int .i64 row, .int .i64 col]), .iface 92 (.agg #[.int .i64 rows, .int .i64 cols, .int .i64 cw, .int .i64 ch, .slice la ln lc, .slice pa pn pc, .map im, .int .i64 top, .bool cur, .int .i64 row, .int .i64 col, .bool false]), .iface 93 (.agg #[.int .i64 rows, .int .i64 cols, .int .i64 cw, .int .i64 ch, .slice la ln lc, .slice pa pn pc, .map im, .int .i64 top, .bool cur, .int .i64 row, .int .i64 col]), .iface 92 (.agg #[.int .i64 rows, .int .i64 cols, .int .i64 cw, .int .i64 ch, .slice la ln lc, .slice pa pn pc, .map im, .int .i64 top, .bool cur, .int .i64 row, .int .i64 col, .bool true]), .iface 94 (.agg #[.int .i64 rows, .int .i64 cols, .int .i64 cw, .int .i64 ch, .slice la ln lc, .slice pa pn pc, .map im, .int .i64 top, .bool cur, .int .i64 row, .int .i64 col])] 122) = V := ⟨_, rfl⟩
  have k2 : Kept (fun _ => False) V1 V2 := by rw [← hV2]; exact (Kept.refl _ _).alloc _
  have c1 := blk_new V1 (.cells #[.iface 90 (.agg #[.int .i64 rows, .int .i64 cols, .int .i64 cw, .int .i64 ch, .slice la ln lc, .slice pa pn pc, .map im, .int .i64 top, .bool cur, .int .i64 row, .int .i64 col]), .iface 92 (.agg #[.int .i64 rows, .int .i64 cols, .int .i64 cw, .int .i64 ch, .slice la ln lc, .slice pa pn pc, .map im, .int .i64 top, .bool cur, .int .i64 row, .int .i64 col, .bool false]), .iface 93 (.agg #[.int .i64 rows, .int .i64 cols, .int .i64 cw, .int .i64 ch, .slice la ln lc, .slice pa pn pc, .map im, .int .i64 top, .bool cur, .int .i64 row, .int .i64 col]), .iface 92 (.agg #[.int .i64 rows, .int .i64 cols, .int .i64 cw, .int .i64 ch, .slice la ln lc, .slice pa pn pc, .map im, .int .i64 top, .bool cur, .int .i64 row, .int .i64 col, .bool true]), .iface 94 (.agg #[.int .i64 rows, .int .i64 cols, .int .i64 cw, .int .i64 ch, .slice la ln lc, .slice pa pn pc, .map im, .int .i64 top, .bool cur, .int .i64 row, .int .i64 col])] 122)
  rw [hV2] at c1
  have kA := hk1.then k1
  have kAll := H0.out.1.then (kA.then k2)
  have hgV : g < V1.heap.size := (ho.kept k1 (fun _ _ => id)).lt g rfl
  have hs2 : wd.heap.size ≤ V2.heap.size := kAll.size
  have HC := Lib.hid (HCO.out V2 g V1.heap.size (by have := H0.out.1.size; omega) (by omega) (kAll.mono fun _ _ h => h.elim) (HLS.out.kept kAll (fun _ h => h.elim)) hs2 (ho.kept (k1.then k2) (fun _ _ => id)) c1)
  obtain ⟨x0, x1, x2, x3, x4, x5, x6, x7, x8, x9, x10⟩ := blk11 (kA.blk H0.out.2.1 id)
  obtain ⟨⟨d0, -⟩, ⟨d1, -⟩, d2, -⟩ := blk3 c0
  have hzg : wd.heap.size + 1 < V.heap.size := lt_of_blk H0.out.2.2
  have H2 := Lib.hid (And.intro kAll (And.intro ((kA.then k2).blk H0.out.2.2 id) (And.intro hg hzg)))
  clear hg ho hk1 k1 c0 k2 c1 kA kAll hgV hs2 hzg
  go_wp2_with fail
  refine HC.out.mono ?_
  rintro e w3 ⟨rfl, ho3, hk3⟩
  obtain ⟨U1, U2, U3, f1, f2, f3, ⟨q0, q0'⟩, ⟨q1, q1'⟩, ⟨q2, q2'⟩, bU, kU⟩ := store3 (hk3.blk H2.out.2.1 (fun (h : wd.heap.size + 1 = g) => by have := H2.out.2.2; omega)) (.int .i64 W) (.int .i64 H) (.slice (some ⟨g, 0, none⟩) n n)
  obtain ⟨⟨m0, -⟩, ⟨m1, -⟩, m2, -⟩ := blk3 bU
  have HE := Lib.hid (And.intro (ho3.kept kU (fun b hb hS => by have h9 : b = wd.heap.size + 1 := hS; have h8 : g = b := (by cases hb; rfl); have := H2.out.2.2; omega)) ((H2.out.1.trans (hk3.mono fun i _ hi => Or.inr (by have h9 : i = g := hi; have := H2.out.2.2; omega))).trans (kU.mono fun i _ hi => Or.inr (by have h9 : i = wd.heap.size + 1 := hi; omega))))
  clear ho3 hk3 bU kU x0 x1 x2 x3 x4 x5 x6 x7 x8 x9 x10 d0 d1 d2
  go_wp2
  exact bodyPost_ret (v := .tuple #[.agg #[.int .i64 W, .int .i64 H, .slice (some ⟨g, 0, none⟩) n n], .int .i64 0]) (by simp [results, Try.results11, go_sem, m0, m1, m2]) rfl ⟨g, rfl, by have := H2.out.2.2; omega, HE.out.1, HE.out.2⟩
set_option maxRecDepth 100000 in
set_option maxHeartbeats 8000000 in
theorem draw_no (rows cols cw ch : Int) (la : Option Addr) (ln lc : Nat) (pa : Option Addr) (pn pc : Nat) (im : Option Nat) (top : Int) (cur : Bool) (row col : Int) (wd : World)
    (h : ¬ ((1 ≤ rows ∧ rows ≤ 1000) ∧ (1 ≤ cols ∧ cols ≤ 1000) ∧ (1 ≤ cw ∧ cw ≤ 64) ∧ (1 ≤ ch ∧ ch ≤ 64))) :
    Calls Try.prog 11 #[.agg #[.int .i64 rows, .int .i64 cols, .int .i64 cw, .int .i64 ch, .slice la ln lc, .slice pa pn pc, .map im, .int .i64 top, .bool cur, .int .i64 row, .int .i64 col]] wd fun e w' => e = .returned (.tuple #[mat0, .int .i64 1]) ∧ Kept (fun _ => False) wd w' := by
  have HB := Lib.hid (fun (v lo hi : Int) (b : Bool) (hb : decide (lo ≤ v ∧ v ≤ hi) = b) (x : World) => show Calls Try.prog 32 #[.int .i64 v, .int .i64 lo, .int .i64 hi] x fun e w' => e = .returned (.bool b) ∧ x = w' from by
    have h := betw_any v lo hi x
    rw [← Bool.decide_and, hb] at h
    exact h.mono fun _ _ h => ⟨h.1, h.2.symm⟩)
  by_cases c0 : 1 ≤ rows ∧ rows ≤ 1000
  rotate_left
  · have HF := Lib.hid (HB.out rows 1 1000 false (decide_eq_false c0))
    clear h HB c0
    go_enter Try.func11, Try.ntmps11
    go_wp2_with (go_at_call 32; first | ((with_reducible refine (HF.out _).mono ?_); rintro e w' ⟨rfl, rfl⟩))
    refine bodyPost_ret (v := .tuple #[mat0, .int .i64 1]) (by simp [results, Try.results11, go_sem, mat0, mat]) rfl ⟨rfl, ?_⟩
    repeat (first | apply Kept.alloc | apply Kept.drew)
    exact Kept.refl _ _
  have HT0 := Lib.hid (HB.out rows 1 1000 true (decide_eq_true c0))
  by_cases c1 : 1 ≤ cols ∧ cols ≤ 1000
  rotate_left
  · have HF := Lib.hid (HB.out cols 1 1000 false (decide_eq_false c1))
    clear h HB c0 c1
    go_enter Try.func11, Try.ntmps11
    go_wp2_with (go_at_call 32; first | ((with_reducible refine (HF.out _).mono ?_); rintro e w' ⟨rfl, rfl⟩) | ((with_reducible refine (HT0.out _).mono ?_); rintro e w' ⟨rfl, rfl⟩))
    refine bodyPost_ret (v := .tuple #[mat0, .int .i64 1]) (by simp [results, Try.results11, go_sem, mat0, mat]) rfl ⟨rfl, ?_⟩
    repeat (first | apply Kept.alloc | apply Kept.drew)
    exact Kept.refl _ _
  have HT1 := Lib.hid (HB.out cols 1 1000 true (decide_eq_true c1))
  by_cases c2 : 1 ≤ cw ∧ cw ≤ 64
  rotate_left
  · have HF := Lib.hid (HB.out cw 1 64 false (decide_eq_false c2))
    clear h HB c0 c1 c2
    go_enter Try.func11, Try.ntmps11
    go_wp2_with (go_at_call 32; first | ((with_reducible refine (HF.out _).mono ?_); rintro e w' ⟨rfl, rfl⟩) | ((with_reducible refine (HT0.out _).mono ?_); rintro e w' ⟨rfl, rfl⟩) | ((with_reducible refine (HT1.out _).mono ?_); rintro e w' ⟨rfl, rfl⟩))
    refine bodyPost_ret (v := .tuple #[mat0, .int .i64 1]) (by simp [results, Try.results11, go_sem, mat0, mat]) rfl ⟨rfl, ?_⟩
    repeat (first | apply Kept.alloc | apply Kept.drew)
    exact Kept.refl _ _
  have HT2 := Lib.hid (HB.out cw 1 64 true (decide_eq_true c2))
  by_cases c3 : 1 ≤ ch ∧ ch ≤ 64
  rotate_left
  · have HF := Lib.hid (HB.out ch 1 64 false (decide_eq_false c3))
    clear h HB c0 c1 c2 c3
    go_enter Try.func11, Try.ntmps11
    go_wp2_with (go_at_call 32; first | ((with_reducible refine (HF.out _).mono ?_); rintro e w' ⟨rfl, rfl⟩) | ((with_reducible refine (HT0.out _).mono ?_); rintro e w' ⟨rfl, rfl⟩) | ((with_reducible refine (HT1.out _).mono ?_); rintro e w' ⟨rfl, rfl⟩) | ((with_reducible refine (HT2.out _).mono ?_); rintro e w' ⟨rfl, rfl⟩))
    refine bodyPost_ret (v := .tuple #[mat0, .int .i64 1]) (by simp [results, Try.results11, go_sem, mat0, mat]) rfl ⟨rfl, ?_⟩
    repeat (first | apply Kept.alloc | apply Kept.drew)
    exact Kept.refl _ _
  have HT3 := Lib.hid (HB.out ch 1 64 true (decide_eq_true c3))
  exact absurd ⟨c0, c1, c2, c3⟩ h
end Go.Proofs.Ytdjgmhbfohbenaa
namespace Go.Proofs.Ytdjgmhbfohbenaa
open Go.RowKit Go.Sort Pl
set_option linter.unusedVariables false
set_option linter.unusedSimpArgs false
set_option maxRecDepth 100000 in
set_option maxHeartbeats 8000000 in
theorem imgs0 (s : Sc) (W H n B : Nat) (w0 : World) (hp : s.pn = 0) : Imgs s W H n B w0 (fun _ P => P) := by
  intro above P g w hg hk ho hb
  have hgw := ho.lt g rfl
  obtain ⟨rows, cols, cw, ch, la, ln, lc, pa, pn, pc, im, top, cur, row, col⟩ := s
  simp only at hp ⊢
  subst hp
  obtain ⟨V, hV⟩ : ∃ V, ((w.alloc (.cells #[.int .i64 rows, .int .i64 cols, .int .i64 cw, .int .i64 ch, .slice la ln lc, .slice pa 0 pc, .map im, .int .i64 top, .bool cur, .int .i64 row, .int .i64 col, .bool above] 92)).alloc (.cells #[.int .i64 W, .int .i64 H, .slice (some ⟨g, 0, none⟩) n n] 31)).alloc (.cells #[.int .i64 0, .int .i64 0, .slice none 0 0] 31) = V := ⟨_, rfl⟩
  have kV : Kept (fun _ => False) w V := by rw [← hV]; exact (((Kept.refl _ _).alloc _).alloc _).alloc _
  have b0 : V.heap[w.heap.size]? = some (.cells #[.int .i64 rows, .int .i64 cols, .int .i64 cw, .int .i64 ch, .slice la ln lc, .slice pa 0 pc, .map im, .int .i64 top, .bool cur, .int .i64 row, .int .i64 col, .bool above] 92 (0, 0)) := by rw [← hV]; exact blk_alloc (blk_alloc (blk_new _ _) _) _
  have b1 : V.heap[w.heap.size + 1]? = some (.cells #[.int .i64 W, .int .i64 H, .slice (some ⟨g, 0, none⟩) n n] 31 (0, 0)) := by rw [← hV]; exact blk_alloc (blk_at _ _ (by simp)) _
  have b2 : V.heap[w.heap.size + 1 + 1]? = some (.cells #[.int .i64 0, .int .i64 0, .slice none 0 0] 31 (0, 0)) := by rw [← hV]; exact blk_at _ _ (by simp)
  have x5 : V.cell? ⟨w.heap.size, 5, none⟩ = some (.slice pa 0 pc) := blk_cell b0 5
  obtain ⟨⟨d0, -⟩, ⟨d1, -⟩, d2, -⟩ := blk3 b1
  obtain ⟨U1, U2, U3, f1, f2, f3, ⟨q0, q0'⟩, ⟨q1, q1'⟩, ⟨q2, q2'⟩, bU, kU⟩ := store3 b2 (.int .i64 W) (.int .i64 H) (.slice (some ⟨g, 0, none⟩) n n)
  obtain ⟨⟨m0, -⟩, ⟨m1, -⟩, m2, -⟩ := blk3 bU
  have HE := Lib.hid (And.intro ((ho.kept kV (fun _ _ => id)).kept kU (fun b hb hS => by have h9 : b = w.heap.size + 1 + 1 := hS; have h8 : g = b := (by cases hb; rfl); omega)) ((kV.mono (fun _ _ h => h.elim) : Kept (fun i => i = g) w V).trans (kU.mono fun i _ hi => Or.inr (by have h9 : i = w.heap.size + 1 + 1 := hi; omega))))
  clear hg hk ho hb hgw kV b0 b1 b2 bU kU
  go_enter Try.func109, Try.ntmps109
  go_wp2
  refine wp_loop_rounds 1 ?_
  rw [rounds_succ]
  go_wp2
  exact bodyPost_ret (v := .agg #[.int .i64 W, .int .i64 H, .slice (some ⟨g, 0, none⟩) n n]) (by simp [results, Try.results109, go_sem, m0, m1, m2]) rfl ⟨rfl, HE.out⟩
theorem known_gly : (glyP 4 4 97 ⟨0, 0, 0⟩).getD 0 0 = 0 ∧ (glyP 4 4 97 ⟨0, 0, 0⟩).getD 20 0 = 229 := ⟨by kernel_rfl, by kernel_rfl⟩
def sc1 : Sc := ⟨1, 1, 1, 1, none, 0, 0, none, 0, 0, none, 0, true, 0, 0⟩
theorem known_drw : drawP sc1 [] (fun _ P => P) 1 1 4 (List.replicate 4 0) = [255, 255, 255, 255] := by kernel_rfl
set_option maxRecDepth 100000 in
set_option maxHeartbeats 8000000 in
theorem known_any (wd : World) : Calls Try.prog 9 #[] wd fun e w' => e = .returned (.bool true) ∧ Kept (fun _ => False) wd w' := by
  have HG := Lib.hid (fun w => show Calls Try.prog 18 #[.int .i32 97, .int .i64 4, .int .i64 4, .agg #[.int .i64 0, .int .i64 0, .int .i64 0]] w fun e w' => ∃ g : Nat, e = .returned (.tuple #[.agg #[.int .i64 4, .int .i64 4, .slice (some ⟨g, 0, none⟩) 64 64], .int .i64 0]) ∧ w.heap.size ≤ g ∧ Own .u8 5 w' (.slice (some ⟨g, 0, none⟩) 64 64) (glyP 4 4 97 ⟨0, 0, 0⟩) ∧ Kept (fun _ => False) w w' from glyph_yes 97 4 4 ⟨0, 0, 0⟩ w (by omega) (by omega) (by omega))
  have HD := Lib.hid (fun w => show Calls Try.prog 11 #[.agg #[.int .i64 1, .int .i64 1, .int .i64 1, .int .i64 1, .slice none 0 0, .slice none 0 0, .map none, .int .i64 0, .bool true, .int .i64 0, .int .i64 0]] w fun e w' => ∃ g : Nat, e = .returned (.tuple #[.agg #[.int .i64 1, .int .i64 1, .slice (some ⟨g, 0, none⟩) 4 4], .int .i64 0]) ∧ w.heap.size ≤ g ∧ Own .u8 5 w' (.slice (some ⟨g, 0, none⟩) 4 4) [255, 255, 255, 255] ∧ Kept (fun _ => False) w w' from by
    have h := draw_yes sc1 [] (fun _ P => P) w 1 1 4 ⟨by decide, by decide, by decide, by decide, by decide, by decide, by decide, by decide⟩ (by decide) (by decide) (by decide) (by decide) (fun row col => by unfold cellS; simp [cl0]) (by decide) (imgs0 _ _ _ _ _ _ rfl) (fun _ P h => h) (LinesAt.nil _ _ _)
    rw [known_drw] at h
    exact h)
  obtain ⟨GL, hGL⟩ : ∃ x, glyP 4 4 97 ⟨0, 0, 0⟩ = x := ⟨_, rfl⟩
  have HGL := Lib.hid (show GL.getD 0 0 = 0 ∧ GL.getD 20 0 = 229 by rw [← hGL]; exact known_gly)
  rw [hGL] at HG
  clear hGL
  go_enter Try.func9, Try.ntmps9
  go_wp2_with fail
  refine (HG.out _).mono ?_
  rintro e w1 ⟨g, rfl, hg, ho, hk1⟩
  obtain ⟨V1, hV1⟩ : ∃ V, w1.alloc (.cells #[.int .i64 4, .int .i64 4, .slice (some ⟨g, 0, none⟩) 64 64] 31) = V := ⟨_, rfl⟩
  have k1 : Kept (fun _ => False) w1 V1 := by rw [← hV1]; exact (Kept.refl _ _).alloc _
  have c0 : V1.heap[w1.heap.size]? = some (.cells #[.int .i64 4, .int .i64 4, .slice (some ⟨g, 0, none⟩) 64 64] 31 (0, 0)) := by rw [← hV1]; exact blk_new _ _
  have H1 := Lib.hid (And.intro (hk1.then k1) (And.intro c0 (ho.kept k1 (fun _ _ => id))))
  clear hg ho hk1 k1 c0
  go_wp2_with fail
  refine (HD.out _).mono ?_
  rintro e w2 ⟨g2, rfl, hg2, ho2, hk2⟩
  obtain ⟨V2, hV2⟩ : ∃ V, w2.alloc (.cells #[.int .i64 1, .int .i64 1, .slice (some ⟨g2, 0, none⟩) 4 4] 31) = V := ⟨_, rfl⟩
  have k2 : Kept (fun _ => False) w2 V2 := by rw [← hV2]; exact (Kept.refl _ _).alloc _
  have e0 : V2.heap[w2.heap.size]? = some (.cells #[.int .i64 1, .int .i64 1, .slice (some ⟨g2, 0, none⟩) 4 4] 31 (0, 0)) := by rw [← hV2]; exact blk_new _ _
  obtain ⟨⟨c0, -⟩, ⟨c1, -⟩, c2, -⟩ := blk3 ((hk2.then k2).blk H1.out.2.1 id)
  obtain ⟨⟨d0, -⟩, ⟨d1, -⟩, d2, -⟩ := blk3 e0
  have hsl := H1.out.2.2.kept (hk2.then k2) (fun _ _ => id)
  have y0 := hsl.at.2.2.2.1 0 (by omega)
  have y20 := hsl.at.2.2.2.1 20 (by omega)
  rw [HGL.out.1] at y0
  rw [HGL.out.2] at y20
  have hcv := run_str (P := Try.prog) (dst := 9) (cap := 4) Try.underlying29 Try.underlying5 Try.underlying9 ((ho2.kept k2 (fun _ _ => id)).slAt)
  rw [show strOfNums [255, 255, 255, 255] = ⟨#[255, 255, 255, 255]⟩ from rfl] at hcv
  have HK := Lib.hid ((H1.out.1.then hk2).then k2)
  clear hg2 ho2 hk2 k2 e0 hsl
  go_wp2
  go_ret
  exact ⟨rfl, HK.out⟩
end Go.Proofs.Ytdjgmhbfohbenaa
namespace Go.Proofs.Ytdjgmhbfohbenaa
open Go.RowKit Go.Sort Pl
set_option linter.unusedVariables false
set_option linter.unusedSimpArgs false
theorem cell_iff {X cw col : Nat} (hcw : 0 < cw) : (col * cw ≤ X ∧ X < col * cw + cw) ↔ X / cw = col := by
  constructor
  · rintro ⟨h1, h2⟩
    exact Nat.div_eq_of_lt_le h1 (by rw [Nat.succ_mul]; exact h2)
  · rintro rfl
    exact ⟨Nat.div_mul_le_self X cw, Nat.lt_div_mul_add hcw⟩
theorem rowF_get {step : Nat → Nat → List Int → List Int} {j R C : Nat} {F : Int → Int} (hs : ∀ row col P, (step row col P).getD j 0 = if row = R ∧ col = C then F (P.getD j 0) else P.getD j 0) (row : Nat) :
    ∀ (k : Nat) (P : List Int), (rowF step row k P).getD j 0 = if row = R ∧ C < k then F (P.getD j 0) else P.getD j 0
  | 0, P => by rw [if_neg (by omega)]; rfl
  | k + 1, P => by
    show (step row k (rowF step row k P)).getD j 0 = _
    rw [hs, rowF_get hs row k P]
    by_cases h : row = R ∧ k = C
    · rw [if_pos h, if_neg (by omega), if_pos (by omega)]
    · rw [if_neg h]
      by_cases h2 : row = R ∧ C < k
      · rw [if_pos h2, if_pos (by omega)]
      · rw [if_neg h2, if_neg (by omega)]
theorem eachF_get {step : Nat → Nat → List Int → List Int} {j R C : Nat} {F : Int → Int} (hs : ∀ row col P, (step row col P).getD j 0 = if row = R ∧ col = C then F (P.getD j 0) else P.getD j 0) (cols : Nat) (hC : C < cols) :
    ∀ (k : Nat) (P : List Int), (eachF step cols k P).getD j 0 = if R < k then F (P.getD j 0) else P.getD j 0
  | 0, P => by rw [if_neg (by omega)]; rfl
  | k + 1, P => by
    show (rowF step k cols (eachF step cols k P)).getD j 0 = _
    rw [rowF_get hs, eachF_get hs cols hC k P]
    by_cases h : k = R
    · rw [if_pos ⟨h, hC⟩, if_neg (by omega), if_pos (by omega)]
    · rw [if_neg (fun h2 => h h2.1)]
      by_cases h2 : R < k
      · rw [if_pos h2, if_pos (by omega)]
      · rw [if_neg h2, if_neg (by omega)]
/-- The parts of a box lie within it. -/
theorem box_out {W : Nat} {L : Int → Int → Int → Int → Rgb → List Int → List Int} {ox oy : Int} {r : Int} {w h : Int} {a : Look} {P : List Int} {j : Nat} (hw : 1 ≤ w) (hh : 1 ≤ h)
    (hL : ∀ (x y bw bh : Int) (c : Rgb) (P : List Int), (L x y bw bh c P).getD j 0 = if InR W (ox + x) (oy + y) bw bh j then [c.r, c.g, c.b, 255].getD (j % 4) 0 else P.getD j 0)
    (hn : ¬ (ox ≤ ((j / 4 % W : Nat) : Int) ∧ ((j / 4 % W : Nat) : Int) < ox + w ∧ oy ≤ ((j / 4 / W : Nat) : Int) ∧ ((j / 4 / W : Nat) : Int) < oy + h)) : (boxS L r w h a P).getD j 0 = P.getD j 0 := by
  obtain ⟨X, hXX⟩ : ∃ X : Int, ((j / 4 % W : Nat) : Int) = X := ⟨_, rfl⟩
  obtain ⟨Y, hYY⟩ : ∃ Y : Int, ((j / 4 / W : Nat) : Int) = Y := ⟨_, rfl⟩
  unfold InR at hL
  simp only [hXX, hYY] at hL hn
  have key : ∀ (x y bw bh : Int) (c : Rgb) (P : List Int), 0 ≤ x → 0 ≤ y → x + bw ≤ w → y + bh ≤ h → (L x y bw bh c P).getD j 0 = P.getD j 0 := by
    intro x y bw bh c P h1 h2 h3 h4
    rw [hL, if_neg (by omega)]
  unfold boxS
  simp only
  obtain ⟨m1, hm1⟩ : ∃ m, r % ((w + 1) / 2) = m := ⟨_, rfl⟩
  obtain ⟨m2, hm2⟩ : ∃ m, r / 256 % ((h + 1) / 2) = m := ⟨_, rfl⟩
  have b1 : 0 ≤ m1 ∧ m1 < (w + 1) / 2 := by rw [← hm1]; exact ⟨Int.emod_nonneg _ (by omega), Int.emod_lt_of_pos _ (by omega)⟩
  have b2 : 0 ≤ m2 ∧ m2 < (h + 1) / 2 := by rw [← hm2]; exact ⟨Int.emod_nonneg _ (by omega), Int.emod_lt_of_pos _ (by omega)⟩
  rw [hm1, hm2]
  have n2 : ∀ P', (if hasB a.fl 128 = true then L 0 (h / 2) w 1 (colors a).1 P' else P').getD j 0 = P'.getD j 0 := by
    intro P'
    split
    · exact key _ _ _ _ _ _ (by omega) (by omega) (by omega) (by omega)
    · rfl
  have n1 : ∀ P', (if hasB a.fl 8 = true then L 0 (h - 1) w 1 (colors a).1 P' else P').getD j 0 = P'.getD j 0 := by
    intro P'
    split
    · exact key _ _ _ _ _ _ (by omega) (by omega) (by omega) (by omega)
    · rfl
  rw [n2, n1]
  split
  · split
    · rw [key _ _ _ _ _ _ (by omega) (by omega) (by omega) (by omega), key _ _ _ _ _ _ (by omega) (by omega) (by omega) (by omega)]
    · rw [key _ _ _ _ _ _ (by omega) (by omega) (by omega) (by omega)]
  · rfl
/-- What a glyph makes of a byte. -/
noncomputable def glyB (w h : Int) (c : Cl) (x y : Int) (k : Nat) (v : Int) : Int :=
  if c.r = 0 then v else if kindI c.r w h c.a.fl x y = 1 then [(colors c.a).1.r, (colors c.a).1.g, (colors c.a).1.b, 255].getD k 0 else if kindI c.r w h c.a.fl x y = 2 then [(colors c.a).2.r, (colors c.a).2.g, (colors c.a).2.b, 255].getD k 0 else v
def bakB (c : Cl) (k : Nat) : Int := [(colors c.a).2.r, (colors c.a).2.g, (colors c.a).2.b, 255].getD k 0
section
variable {s : Sc} {ls : List (List Cl)} {W H : Nat} {j : Nat}
theorem gro_get (hcw : 0 < s.cw) (hch : 0 < s.ch) (hW : W = s.cols * s.cw) (hH : H = s.rows * s.ch) (hj : j < 4 * (W * H)) (P : List Int) :
    (eachF (groF s ls W H) s.cols s.rows P).getD j 0 = bakB (cellS ls (j / 4 / W / s.ch) (j / 4 % W / s.cw)) (j % 4) := by
  obtain ⟨h1, h2⟩ := px_lt hj
  have hC : j / 4 % W / s.cw < s.cols := Nat.div_lt_of_lt_mul (by rw [Nat.mul_comm, ← hW]; exact h1)
  have hR : j / 4 / W / s.ch < s.rows := Nat.div_lt_of_lt_mul (by rw [Nat.mul_comm, ← hH]; exact h2)
  rw [eachF_get (R := j / 4 / W / s.ch) (C := j / 4 % W / s.cw) (F := fun _ => bakB (cellS ls (j / 4 / W / s.ch) (j / 4 % W / s.cw)) (j % 4)) (fun row col P => ?_) _ hC, if_pos hR]
  unfold groF
  rw [layL_get hj]
  have hiff : InR W ((col * s.cw : Nat) : Int) ((row * s.ch : Nat) : Int) s.cw s.ch j ↔ row = j / 4 / W / s.ch ∧ col = j / 4 % W / s.cw := by
    unfold InR
    rw [eq_comm (a := row), eq_comm (a := col), ← cell_iff hch, ← cell_iff hcw]
    omega
  by_cases h : row = j / 4 / W / s.ch ∧ col = j / 4 % W / s.cw
  · rw [if_pos (hiff.2 h), if_pos h, h.1, h.2]; rfl
  · rw [if_neg (fun h3 => h (hiff.1 h3)), if_neg h]
theorem gls_get (hcw : 0 < s.cw) (hch : 0 < s.ch) (hW : W = s.cols * s.cw) (hH : H = s.rows * s.ch) (hk : ∀ row col, (cellS ls row col).k = 0) (hj : j < 4 * (W * H)) (P : List Int) :
    (eachF (glsF s ls W H) s.cols s.rows P).getD j 0 = glyB s.cw s.ch (cellS ls (j / 4 / W / s.ch) (j / 4 % W / s.cw)) (((j / 4 % W : Nat) : Int) - ((j / 4 % W / s.cw * s.cw : Nat) : Int)) (((j / 4 / W : Nat) : Int) - ((j / 4 / W / s.ch * s.ch : Nat) : Int)) (j % 4) (P.getD j 0) := by
  obtain ⟨h1, h2⟩ := px_lt hj
  have hC : j / 4 % W / s.cw < s.cols := Nat.div_lt_of_lt_mul (by rw [Nat.mul_comm, ← hW]; exact h1)
  have hR : j / 4 / W / s.ch < s.rows := Nat.div_lt_of_lt_mul (by rw [Nat.mul_comm, ← hH]; exact h2)
  rw [eachF_get (R := j / 4 / W / s.ch) (C := j / 4 % W / s.cw) (F := glyB s.cw s.ch (cellS ls (j / 4 / W / s.ch) (j / 4 % W / s.cw)) (((j / 4 % W : Nat) : Int) - ((j / 4 % W / s.cw * s.cw : Nat) : Int)) (((j / 4 / W : Nat) : Int) - ((j / 4 / W / s.ch * s.ch : Nat) : Int)) (j % 4)) (fun row col P => ?_) _ hC, if_pos hR]
  unfold glsF
  have hkk := hk row col
  have hgw : glsW s (cellS ls row col) col = s.cw := by unfold glsW; rw [if_neg (by omega)]
  rw [hgw]
  have hL : ∀ (x y bw bh : Int) (c : Rgb) (P : List Int), (glsL W H (col * s.cw) (row * s.ch) x y bw bh c P).getD j 0 = if InR W (((col * s.cw : Nat) : Int) + x) (((row * s.ch : Nat) : Int) + y) bw bh j then [c.r, c.g, c.b, 255].getD (j % 4) 0 else P.getD j 0 := fun x y bw bh c P => by unfold glsL; exact layL_get hj
  by_cases h : row = j / 4 / W / s.ch ∧ col = j / 4 % W / s.cw
  · rw [if_pos h]
    have g1 := (cell_iff (X := j / 4 / W) hch).2 h.1.symm
    have g2 := (cell_iff (X := j / 4 % W) hcw).2 h.2.symm
    rw [← h.1, ← h.2]
    by_cases hr : (cellS ls row col).r = 0
    · rw [if_pos (.inl hr)]
      unfold glyB
      rw [if_pos hr]
    · rw [if_neg (by omega), box_get (by omega) (by omega) hL (by omega) (by omega) (by omega) (by omega)]
      unfold glyB
      rw [if_neg hr]
  · rw [if_neg h]
    split
    · rfl
    · refine box_out (W := W) (ox := ((col * s.cw : Nat) : Int)) (oy := ((row * s.ch : Nat) : Int)) (by omega) (by omega) hL ?_
      intro hi
      apply h
      exact ⟨((cell_iff hch).1 (by omega)).symm, ((cell_iff hcw).1 (by omega)).symm⟩
end
end Go.Proofs.Ytdjgmhbfohbenaa
