/- A scene drawn: the layers one behind the other. -/
import Derived.Test.YtdjgmhbfohbenaaGlsD
import Derived.Test.YtdjgmhbfohbenaaCurD
namespace Go.Proofs.Ytdjgmhbfohbenaa
open Go.RowKit Go.Sort Pl
set_option linter.unusedVariables false
set_option linter.unusedSimpArgs false
/-- The images' layer, by whatever it makes of a picture. -/
def Imgs (s : Sc) (W H n B : Nat) (w0 : World) (img : Bool → List Int → List Int) : Prop :=
  ∀ (above : Bool) (P : List Int) (g : Nat) (w : World), B ≤ g → Kept (fun i => B ≤ i) w0 w → Own .u8 5 w (.slice (some ⟨g, 0, none⟩) n n) P → IsBytes P →
    Calls Try.prog 109 #[.agg #[.int .i64 s.rows, .int .i64 s.cols, .int .i64 s.cw, .int .i64 s.ch, .slice s.la s.ln s.lc, .slice s.pa s.pn s.pc, .map s.im, .int .i64 s.top, .bool s.cur, .int .i64 s.row, .int .i64 s.col, .bool above], .agg #[.int .i64 W, .int .i64 H, .slice (some ⟨g, 0, none⟩) n n]] w fun e w' =>
      e = .returned (.agg #[.int .i64 W, .int .i64 H, .slice (some ⟨g, 0, none⟩) n n]) ∧ Own .u8 5 w' (.slice (some ⟨g, 0, none⟩) n n) (img above P) ∧ Kept (fun i => i = g) w w'
def bytesS (s : String) : ByteArray := s.toUTF8
theorem ta90_92 (vs : Array Value) (w : World) : (Instr.typeAssert (.iface 90 (.agg vs)) 122 92 true).run Try.prog w = .ok (.tuple #[.agg #[.int .i64 0, .int .i64 0, .int .i64 0, .int .i64 0, .slice none 0 0, .slice none 0 0, .map none, .int .i64 0, .bool false, .int .i64 0, .int .i64 0, .bool false], .bool false]) w := by kernel_rfl
theorem ta90_90 (vs : Array Value) (w : World) : (Instr.typeAssert (.iface 90 (.agg vs)) 122 90 true).run Try.prog w = .ok (.tuple #[.agg vs, .bool true]) w := by kernel_rfl
theorem ta90_93 (vs : Array Value) (w : World) : (Instr.typeAssert (.iface 90 (.agg vs)) 122 93 true).run Try.prog w = .ok (.tuple #[.agg #[.int .i64 0, .int .i64 0, .int .i64 0, .int .i64 0, .slice none 0 0, .slice none 0 0, .map none, .int .i64 0, .bool false, .int .i64 0, .int .i64 0], .bool false]) w := by kernel_rfl
theorem ta90_94 (vs : Array Value) (w : World) : (Instr.typeAssert (.iface 90 (.agg vs)) 122 94 true).run Try.prog w = .ok (.tuple #[.agg #[.int .i64 0, .int .i64 0, .int .i64 0, .int .i64 0, .slice none 0 0, .slice none 0 0, .map none, .int .i64 0, .bool false, .int .i64 0, .int .i64 0], .bool false]) w := by kernel_rfl
theorem m_grounds (vs : Array Value) (w : World) : (method 122 90 (.agg vs) "Paint").run Try.prog w = .ok (106, .agg vs) w := by kernel_rfl
set_option maxRecDepth 100000 in
set_option maxHeartbeats 8000000 in
theorem names_grounds (vs : Array Value) (w : World) : Calls Try.prog 55 #[.iface 90 (.agg vs)] w fun e w' => e = .returned (.string ⟨#[99, 101, 108, 108, 115]⟩) ∧ w = w' := by
  have ta92 := ta90_92 vs
  have ta90 := ta90_90 vs
  have ta93 := ta90_93 vs
  have ta94 := ta90_94 vs
  go_enter Try.func55, Try.ntmps55
  go_wp2
  go_ret
  exact ⟨rfl, rfl⟩
theorem ta92_92 (vs : Array Value) (w : World) : (Instr.typeAssert (.iface 92 (.agg vs)) 122 92 true).run Try.prog w = .ok (.tuple #[.agg vs, .bool true]) w := by kernel_rfl
theorem ta92_90 (vs : Array Value) (w : World) : (Instr.typeAssert (.iface 92 (.agg vs)) 122 90 true).run Try.prog w = .ok (.tuple #[.agg #[.int .i64 0, .int .i64 0, .int .i64 0, .int .i64 0, .slice none 0 0, .slice none 0 0, .map none, .int .i64 0, .bool false, .int .i64 0, .int .i64 0], .bool false]) w := by kernel_rfl
theorem ta92_93 (vs : Array Value) (w : World) : (Instr.typeAssert (.iface 92 (.agg vs)) 122 93 true).run Try.prog w = .ok (.tuple #[.agg #[.int .i64 0, .int .i64 0, .int .i64 0, .int .i64 0, .slice none 0 0, .slice none 0 0, .map none, .int .i64 0, .bool false, .int .i64 0, .int .i64 0], .bool false]) w := by kernel_rfl
theorem ta92_94 (vs : Array Value) (w : World) : (Instr.typeAssert (.iface 92 (.agg vs)) 122 94 true).run Try.prog w = .ok (.tuple #[.agg #[.int .i64 0, .int .i64 0, .int .i64 0, .int .i64 0, .slice none 0 0, .slice none 0 0, .map none, .int .i64 0, .bool false, .int .i64 0, .int .i64 0], .bool false]) w := by kernel_rfl
theorem m_images (vs : Array Value) (w : World) : (method 122 92 (.agg vs) "Paint").run Try.prog w = .ok (109, .agg vs) w := by kernel_rfl
set_option maxRecDepth 100000 in
set_option maxHeartbeats 8000000 in
theorem names_images (vs : Array Value) (w : World) : Calls Try.prog 55 #[.iface 92 (.agg vs)] w fun e w' => e = .returned (.string ⟨#[105, 109, 97, 103, 101, 115]⟩) ∧ w = w' := by
  have ta92 := ta92_92 vs
  have ta90 := ta92_90 vs
  have ta93 := ta92_93 vs
  have ta94 := ta92_94 vs
  go_enter Try.func55, Try.ntmps55
  go_wp2
  go_ret
  exact ⟨rfl, rfl⟩
theorem ta93_92 (vs : Array Value) (w : World) : (Instr.typeAssert (.iface 93 (.agg vs)) 122 92 true).run Try.prog w = .ok (.tuple #[.agg #[.int .i64 0, .int .i64 0, .int .i64 0, .int .i64 0, .slice none 0 0, .slice none 0 0, .map none, .int .i64 0, .bool false, .int .i64 0, .int .i64 0, .bool false], .bool false]) w := by kernel_rfl
theorem ta93_90 (vs : Array Value) (w : World) : (Instr.typeAssert (.iface 93 (.agg vs)) 122 90 true).run Try.prog w = .ok (.tuple #[.agg #[.int .i64 0, .int .i64 0, .int .i64 0, .int .i64 0, .slice none 0 0, .slice none 0 0, .map none, .int .i64 0, .bool false, .int .i64 0, .int .i64 0], .bool false]) w := by kernel_rfl
theorem ta93_93 (vs : Array Value) (w : World) : (Instr.typeAssert (.iface 93 (.agg vs)) 122 93 true).run Try.prog w = .ok (.tuple #[.agg vs, .bool true]) w := by kernel_rfl
theorem ta93_94 (vs : Array Value) (w : World) : (Instr.typeAssert (.iface 93 (.agg vs)) 122 94 true).run Try.prog w = .ok (.tuple #[.agg #[.int .i64 0, .int .i64 0, .int .i64 0, .int .i64 0, .slice none 0 0, .slice none 0 0, .map none, .int .i64 0, .bool false, .int .i64 0, .int .i64 0], .bool false]) w := by kernel_rfl
theorem m_glyphs (vs : Array Value) (w : World) : (method 122 93 (.agg vs) "Paint").run Try.prog w = .ok (111, .agg vs) w := by kernel_rfl
set_option maxRecDepth 100000 in
set_option maxHeartbeats 8000000 in
theorem names_glyphs (vs : Array Value) (w : World) : Calls Try.prog 55 #[.iface 93 (.agg vs)] w fun e w' => e = .returned (.string ⟨#[99, 101, 108, 108, 115]⟩) ∧ w = w' := by
  have ta92 := ta93_92 vs
  have ta90 := ta93_90 vs
  have ta93 := ta93_93 vs
  have ta94 := ta93_94 vs
  go_enter Try.func55, Try.ntmps55
  go_wp2
  go_ret
  exact ⟨rfl, rfl⟩
theorem ta94_92 (vs : Array Value) (w : World) : (Instr.typeAssert (.iface 94 (.agg vs)) 122 92 true).run Try.prog w = .ok (.tuple #[.agg #[.int .i64 0, .int .i64 0, .int .i64 0, .int .i64 0, .slice none 0 0, .slice none 0 0, .map none, .int .i64 0, .bool false, .int .i64 0, .int .i64 0, .bool false], .bool false]) w := by kernel_rfl
theorem ta94_90 (vs : Array Value) (w : World) : (Instr.typeAssert (.iface 94 (.agg vs)) 122 90 true).run Try.prog w = .ok (.tuple #[.agg #[.int .i64 0, .int .i64 0, .int .i64 0, .int .i64 0, .slice none 0 0, .slice none 0 0, .map none, .int .i64 0, .bool false, .int .i64 0, .int .i64 0], .bool false]) w := by kernel_rfl
theorem ta94_93 (vs : Array Value) (w : World) : (Instr.typeAssert (.iface 94 (.agg vs)) 122 93 true).run Try.prog w = .ok (.tuple #[.agg #[.int .i64 0, .int .i64 0, .int .i64 0, .int .i64 0, .slice none 0 0, .slice none 0 0, .map none, .int .i64 0, .bool false, .int .i64 0, .int .i64 0], .bool false]) w := by kernel_rfl
theorem ta94_94 (vs : Array Value) (w : World) : (Instr.typeAssert (.iface 94 (.agg vs)) 122 94 true).run Try.prog w = .ok (.tuple #[.agg vs, .bool true]) w := by kernel_rfl
theorem m_cursor (vs : Array Value) (w : World) : (method 122 94 (.agg vs) "Paint").run Try.prog w = .ok (114, .agg vs) w := by kernel_rfl
set_option maxRecDepth 100000 in
set_option maxHeartbeats 8000000 in
theorem names_cursor (vs : Array Value) (w : World) : Calls Try.prog 55 #[.iface 94 (.agg vs)] w fun e w' => e = .returned (.string ⟨#[99, 117, 114, 115, 111, 114]⟩) ∧ w = w' := by
  have ta92 := ta94_92 vs
  have ta90 := ta94_90 vs
  have ta93 := ta94_93 vs
  have ta94 := ta94_94 vs
  go_enter Try.func55, Try.ntmps55
  go_wp2
  go_ret
  exact ⟨rfl, rfl⟩
theorem ta68_92 (vs : Array Value) (w : World) : (Instr.typeAssert (.iface 68 (.agg vs)) 122 92 true).run Try.prog w = .ok (.tuple #[.agg #[.int .i64 0, .int .i64 0, .int .i64 0, .int .i64 0, .slice none 0 0, .slice none 0 0, .map none, .int .i64 0, .bool false, .int .i64 0, .int .i64 0, .bool false], .bool false]) w := by kernel_rfl
theorem ta68_90 (vs : Array Value) (w : World) : (Instr.typeAssert (.iface 68 (.agg vs)) 122 90 true).run Try.prog w = .ok (.tuple #[.agg #[.int .i64 0, .int .i64 0, .int .i64 0, .int .i64 0, .slice none 0 0, .slice none 0 0, .map none, .int .i64 0, .bool false, .int .i64 0, .int .i64 0], .bool false]) w := by kernel_rfl
theorem ta68_93 (vs : Array Value) (w : World) : (Instr.typeAssert (.iface 68 (.agg vs)) 122 93 true).run Try.prog w = .ok (.tuple #[.agg #[.int .i64 0, .int .i64 0, .int .i64 0, .int .i64 0, .slice none 0 0, .slice none 0 0, .map none, .int .i64 0, .bool false, .int .i64 0, .int .i64 0], .bool false]) w := by kernel_rfl
theorem ta68_94 (vs : Array Value) (w : World) : (Instr.typeAssert (.iface 68 (.agg vs)) 122 94 true).run Try.prog w = .ok (.tuple #[.agg #[.int .i64 0, .int .i64 0, .int .i64 0, .int .i64 0, .slice none 0 0, .slice none 0 0, .map none, .int .i64 0, .bool false, .int .i64 0, .int .i64 0], .bool false]) w := by kernel_rfl
theorem m_fill (vs : Array Value) (w : World) : (method 122 68 (.agg vs) "Paint").run Try.prog w = .ok (101, .agg vs) w := by kernel_rfl
set_option maxRecDepth 100000 in
set_option maxHeartbeats 8000000 in
theorem names_fill (vs : Array Value) (w : World) : Calls Try.prog 55 #[.iface 68 (.agg vs)] w fun e w' => e = .returned (.string ⟨#[]⟩) ∧ w = w' := by
  have ta92 := ta68_92 vs
  have ta90 := ta68_90 vs
  have ta93 := ta68_93 vs
  have ta94 := ta68_94 vs
  go_enter Try.func55, Try.ntmps55
  go_wp2
  go_ret
  exact ⟨rfl, rfl⟩
theorem layL_bytes {W H : Nat} {x y bw bh : Int} {c : Rgb} {P : List Int} (hc : c.IsB) (hP : IsBytes P) : IsBytes (layL W H x y bw bh c P) := by
  intro v hv
  obtain ⟨j, hj, rfl⟩ := List.getElem_of_mem hv
  rw [layL_len] at hj
  have h := layL_get (x := x) (y := y) (bw := bw) (bh := bh) (c := c) (P := P) hj
  rw [List.getD_eq_getElem?_getD, List.getElem?_eq_getElem (by rw [layL_len]; exact hj)] at h
  simp only [Option.getD_some] at h
  rw [h]
  obtain ⟨h1, h2, h3⟩ := hc
  split
  · match j % 4, Nat.mod_lt j (show 4 > 0 by omega) with
    | 0, _ => exact h1
    | 1, _ => exact h2
    | 2, _ => exact h3
    | 3, _ => exact ⟨by show (0 : Int) ≤ 255; decide, by show (255 : Int) < 256; decide⟩
  · exact getD_byte hP _
theorem colors_isB (a : Look) : (colors a).1.IsB ∧ (colors a).2.IsB := by
  have h1 := colour_isB a.fg true
  have h2 := colour_isB a.bg false
  have hh : ∀ c : Rgb, c.IsB → c.half.IsB := fun c ⟨⟨p1, p2⟩, ⟨q1, q2⟩, r1, r2⟩ => ⟨⟨by show 0 ≤ c.r / 2; omega, by show c.r / 2 < 256; omega⟩, ⟨by show 0 ≤ c.g / 2; omega, by show c.g / 2 < 256; omega⟩, by show 0 ≤ c.b / 2; omega, by show c.b / 2 < 256; omega⟩
  unfold colors
  simp only
  cases hasB a.fl 2 <;> cases hasB a.fl 32 <;> cases hasB a.fl 64 <;> simp [h1, h2, hh]
theorem rowF_ind {C : List Int → Prop} {step : Nat → Nat → List Int → List Int} (hs : ∀ r c P, C P → C (step r c P)) (row : Nat) : ∀ (k : Nat) {P : List Int}, C P → C (rowF step row k P)
  | 0, _, h => h
  | k + 1, _, h => hs _ _ _ (rowF_ind hs row k h)
theorem eachF_ind {C : List Int → Prop} {step : Nat → Nat → List Int → List Int} (hs : ∀ r c P, C P → C (step r c P)) (cols : Nat) : ∀ (k : Nat) {P : List Int}, C P → C (eachF step cols k P)
  | 0, _, h => h
  | k + 1, _, h => rowF_ind hs k cols (eachF_ind hs cols k h)
theorem boxS_ind {C : List Int → Prop} {L : Int → Int → Int → Int → Rgb → List Int → List Int} (hL : ∀ x y bw bh c P, c.IsB → C P → C (L x y bw bh c P)) (r w h : Int) (a : Look) {P : List Int} (hP : C P) : C (boxS L r w h a P) := by
  obtain ⟨hF, hB⟩ := colors_isB a
  unfold boxS
  simp only
  have h1 : C (if 32 < r then (if 2 < (w + 1) / 2 ∧ 2 < (h + 1) / 2 then L (w / 4 + r % ((w + 1) / 2)) (h / 4 + r / 256 % ((h + 1) / 2)) 1 1 (colors a).2 (L (w / 4) (h / 4) ((w + 1) / 2) ((h + 1) / 2) (colors a).1 P) else L (w / 4) (h / 4) ((w + 1) / 2) ((h + 1) / 2) (colors a).1 P) else P) := by
    split
    · split
      · exact hL _ _ _ _ _ _ hB (hL _ _ _ _ _ _ hF hP)
      · exact hL _ _ _ _ _ _ hF hP
    · exact hP
  split
  · refine hL _ _ _ _ _ _ hF ?_
    split
    · exact hL _ _ _ _ _ _ hF h1
    · exact h1
  · split
    · exact hL _ _ _ _ _ _ hF h1
    · exact h1
theorem gro_bytes (s : Sc) (ls : List (List Cl)) (W H : Nat) {P : List Int} (hP : IsBytes P) : IsBytes (eachF (groF s ls W H) s.cols s.rows P) :=
  eachF_ind (fun r c P hP => by unfold groF; exact layL_bytes (colors_isB _).2 hP) _ _ hP
theorem gls_bytes (s : Sc) (ls : List (List Cl)) (W H : Nat) {P : List Int} (hP : IsBytes P) : IsBytes (eachF (glsF s ls W H) s.cols s.rows P) :=
  eachF_ind (fun r c P hP => by
    unfold glsF
    split
    · exact hP
    · exact boxS_ind (fun x y bw bh c P hc hP => by unfold glsL; exact layL_bytes hc hP) _ _ _ _ hP) _ _ hP
def drawP (s : Sc) (ls : List (List Cl)) (img : Bool → List Int → List Int) (W H n : Nat) (P : List Int) : List Int :=
  curP s W n (img true (eachF (glsF s ls W H) s.cols s.rows (img false (eachF (groF s ls W H) s.cols s.rows P))))
def Sc.valB (s : Sc) (b : Bool) : Value := .agg #[.int .i64 s.rows, .int .i64 s.cols, .int .i64 s.cw, .int .i64 s.ch, .slice s.la s.ln s.lc, .slice s.pa s.pn s.pc, .map s.im, .int .i64 s.top, .bool s.cur, .int .i64 s.row, .int .i64 s.col, .bool b]
/-- What holds of memory while the layers are laid. -/
structure CoI (s : Sc) (ls : List (List Cl)) (B : Nat) (w0 wd : World) (W H n g lb : Nat) (L : List Int) (wr : World) : Prop where
  o : Own .u8 5 wr (.slice (some ⟨g, 0, none⟩) n n) L
  k : Kept (fun i => i = g) wd wr
  m : wr.heap[wd.heap.size]? = some (.cells #[.int .i64 W, .int .i64 H, .slice (some ⟨g, 0, none⟩) n n] 31 (0, 0))
  z : wr.heap[wd.heap.size + 1]? = some (.cells #[.int .i64 0, .int .i64 0, .slice none 0 0] 31 (0, 0))
  l : wr.heap[lb]? = some (.cells #[.iface 90 s.val, .iface 92 (s.valB false), .iface 93 s.val, .iface 92 (s.valB true), .iface 94 s.val] 122 (0, 0))
  w : Kept (fun i => B ≤ i) w0 wr
  s : LinesAt B wr s.la s.ln ls
theorem CoI.kept {s : Sc} {ls : List (List Cl)} {B : Nat} {w0 wd : World} {W H n g lb : Nat} {L : List Int} {wr w2 : World} (h : CoI s ls B w0 wd W H n g lb L wr) (hk : Kept (fun _ => False) wr w2) : CoI s ls B w0 wd W H n g lb L w2 :=
  ⟨h.o.kept hk (fun _ _ => id), h.k.then (hk.mono fun _ _ h => h.elim), hk.blk h.m id, hk.blk h.z id, hk.blk h.l id, h.w.then (hk.mono fun _ _ h => h.elim), h.s.kept hk (fun _ h => h.elim)⟩
theorem CoI.lay {s : Sc} {ls : List (List Cl)} {B : Nat} {w0 wd : World} {W H n g lb : Nat} {L L' : List Int} {wr w2 : World} (h : CoI s ls B w0 wd W H n g lb L wr) (ho : Own .u8 5 w2 (.slice (some ⟨g, 0, none⟩) n n) L') (hk : Kept (fun i => i = g) wr w2) (hg : g < wd.heap.size) (hB : B ≤ g) (hl : lb ≠ g) : CoI s ls B w0 wd W H n g lb L' w2 :=
  ⟨ho, h.k.then hk, hk.blk h.m (fun (h : wd.heap.size = g) => by omega), hk.blk h.z (fun (h : wd.heap.size + 1 = g) => by omega), hk.blk h.l hl, h.w.then (hk.mono fun i _ hi => by have h9 : i = g := hi; omega), h.s.kept hk (fun i hi => by have h9 : i = g := hi; omega)⟩
/-- The matrix's three numbers are written anew, as they were. -/
theorem same3 {w : World} {b : Nat} {x y z : Value} {t : TypeId} (h : w.heap[b]? = some (.cells #[x, y, z] t (0, 0))) : ∃ V1 V2 V3, w.setCell ⟨b, 0, none⟩ x = V1 ∧ V1.setCell ⟨b, 1, none⟩ y = V2 ∧ V2.setCell ⟨b, 2, none⟩ z = V3 ∧ (w.cell? ⟨b, 0, none⟩ = some x ∧ w.frozen? ⟨b, 0, none⟩ = false) ∧ (V1.cell? ⟨b, 1, none⟩ = some y ∧ V1.frozen? ⟨b, 1, none⟩ = false) ∧ (V2.cell? ⟨b, 2, none⟩ = some z ∧ V2.frozen? ⟨b, 2, none⟩ = false) ∧ V3.heap[b]? = some (.cells #[x, y, z] t (0, 0)) ∧ Kept (· = b) w V3 := store3 h x y z
theorem CoI.same {s : Sc} {ls : List (List Cl)} {B : Nat} {w0 wd : World} {W H n g lb : Nat} {L : List Int} {wr w2 : World} (h : CoI s ls B w0 wd W H n g lb L wr) (hb : w2.heap[wd.heap.size]? = some (.cells #[.int .i64 W, .int .i64 H, .slice (some ⟨g, 0, none⟩) n n] 31 (0, 0))) (hk : Kept (fun i => i = wd.heap.size) wr w2) (hg : g < wd.heap.size) (hB : B ≤ wd.heap.size) (hl : lb < wd.heap.size) : CoI s ls B w0 wd W H n g lb L w2 :=
  ⟨h.o.kept hk (fun b hb hS => by have h9 : b = wd.heap.size := hS; have h8 : g = b := (by cases hb; rfl); omega), h.k.trans (hk.mono fun i _ hi => Or.inr (by have h9 : i = wd.heap.size := hi; omega)), hb, hk.blk h.z (fun (h : wd.heap.size + 1 = wd.heap.size) => by omega), hk.blk h.l (fun (h : lb = wd.heap.size) => by omega), h.w.then (hk.mono fun i _ hi => by have h9 : i = wd.heap.size := hi; omega), h.s.kept hk (fun i hi => by have h9 : i = wd.heap.size := hi; omega)⟩
end Go.Proofs.Ytdjgmhbfohbenaa
