/- The law PaintImages. -/
import Derived.Test.YtdjgmhbfohbenaaImgsD
import Derived.Test.YtdjgmhbfohbenaaMDrw
import Derived.Test.YtdjgmhbfohbenaaLinM
import Derived.Test.YtdjgmhbfohbenaaMMat
import Derived.Test.YtdjgmhbfohbenaaGrow
import Derived.Test.YtdjgmhbfohbenaaLImE1
import Derived.Test.YtdjgmhbfohbenaaLImE2
import Derived.Test.YtdjgmhbfohbenaaLImE3
import Derived.Deep.DeepCutAuto
namespace Go.Proofs.Ytdjgmhbfohbenaa
open Go.RowKit Go.Sort Pl
set_option linter.unusedVariables false
set_option linter.unusedSimpArgs false
attribute [local go_sem] growOp growUpon sameUpon
theorem ownV_blk {e : TypeId} {w : World} {v : Value} {xs : List Value} (h : OwnV e w v xs) {b : Nat} (hb : v.ownBlock = some b) : ∃ c, w.heap[b]? = some (.cells c e (0, 0)) := by
  obtain ⟨h1, h2⟩ := h
  rcases h2 with ⟨rfl, -⟩ | ⟨g, cap, cur, rfl, -, hg, -⟩
  · cases hb
  · cases hb; exact ⟨cur, hg⟩
theorem ownC_blk {w : World} {v : Value} {L : List Cl} (h : OwnC w v L) {b : Nat} (hb : v.ownBlock = some b) : ∃ c, w.heap[b]? = some (.cells c 100 (0, 0)) := by
  obtain ⟨h1, h2⟩ := h
  rcases h2 with ⟨rfl, -⟩ | ⟨g, cap, cur, rfl, -, hg, -⟩
  · cases hb
  · cases hb; exact ⟨cur, hg⟩
theorem blk_ty {w : World} {b b' : Nat} {c c' : Array Value} {t t' : TypeId} (h : w.heap[b]? = some (.cells c t (0, 0))) (h' : w.heap[b']? = some (.cells c' t' (0, 0))) (ht : t ≠ t') : b ≠ b' := by
  rintro rfl
  rw [h] at h'
  simp only [Option.some.injEq, Obj.cells.injEq] at h'
  exact ht h'.2.1
/-- The lines laid so far: in a row of their own, which the scene in block sb holds. -/
def TI (W : World) (sb : Nat) (S0 : Value → Array Value) (ls : Nat → List Cl) (i : Nat) (gv : Value) (wr : World) : Prop :=
  ∃ vs, OwnV 73 wr gv vs ∧ vs.length = i ∧ (∀ j, j < i → ∃ v, vs[j]? = some v ∧ OwnC wr v (ls j)) ∧ wr.heap[sb]? = some (.cells (S0 gv) 26 (0, 0)) ∧ Kept (fun _ => False) W wr ∧ (∀ b, gv.ownBlock = some b → sb < b)
theorem TI.kept {W : World} {sb : Nat} {S0 : Value → Array Value} {ls : Nat → List Cl} {i : Nat} {gv : Value} {wr w2 : World} (h : TI W sb S0 ls i gv wr) (hk : Kept (fun _ => False) wr w2) : TI W sb S0 ls i gv w2 := by
  obtain ⟨vs, h1, h2, h3, h4, h5, h6⟩ := h
  refine ⟨vs, h1.kept hk (fun _ _ => id), h2, fun j hj => ?_, hk.blk h4 id, h5.then hk, h6⟩
  obtain ⟨v, hv, ho⟩ := h3 j hj
  exact ⟨v, hv, ho.kept hk (fun _ _ => id)⟩
/-- One line more. -/
theorem TI.next {W : World} {sb : Nat} {S0 : Value → Array Value} {ls : Nat → List Cl} {i : Nat} {gv : Value} {wr wa w5 : World} {v5 xv : Value} {vs : List Value} (h1 : OwnV 73 wr gv vs) (h2 : vs.length = i) (h3 : ∀ j, j < i → ∃ v, vs[j]? = some v ∧ OwnC wr v (ls j)) (h4 : wr.heap[sb]? = some (.cells (S0 gv) 26 (0, 0))) (hk : Kept (fun _ => False) W wr) (h6 : ∀ b, gv.ownBlock = some b → sb < b)
    (hS : ∀ u, (S0 gv).setIfInBounds 4 u = S0 u) (hsb : W.heap.size ≤ sb)
    (hka : Kept (fun _ => False) wr wa) (ho5 : OwnV 73 w5 v5 (vs ++ [xv])) (hk5 : Kept (fun k => gv.ownBlock = some k) wa w5) (hpr5 : v5.ownBlock = gv.ownBlock ∨ v5.ownBlock = some wa.heap.size) (hx : OwnC wr xv (ls i)) :
    TI W sb S0 ls (i + 1) v5 (w5.setCell ⟨sb, 4, none⟩ v5) := by
  have hgo : gv.ownBlock ≠ some sb := fun he => Nat.lt_irrefl _ (h6 sb he)
  obtain ⟨f1, f2, f3, f4, f5⟩ := appV_field (i := 4) h4 rfl hgo hka ho5 hk5 hpr5
  have rowk : ∀ (v : Value) (L : List Cl), OwnC wr v L → OwnC (w5.setCell ⟨sb, 4, none⟩ v5) v L := fun v L ho => ho.kept f4 (fun b hb hS => by
    obtain ⟨c, hc⟩ := ownC_blk ho hb
    rcases hS with rfl | hS
    · exact blk_ty hc h4 (by decide) rfl
    · obtain ⟨c', hc'⟩ := ownV_blk h1 hS
      exact blk_ty hc hc' (by decide) rfl)
  refine ⟨vs ++ [xv], f2, by simp [h2], fun j hj => ?_, by rw [f1, hS], hk.trans (f4.mono fun b _ hb => Or.inr ?_), fun b hb => ?_⟩
  · by_cases hji : j = i
    · subst hji
      exact ⟨xv, by simp [← h2], rowk _ _ hx⟩
    · obtain ⟨v, hv, ho⟩ := h3 j (by omega)
      exact ⟨v, by rw [List.getElem?_append_left (by omega)]; exact hv, rowk _ _ ho⟩
  · rcases hb with rfl | hb
    · exact hsb
    · have := h6 b hb; omega
  · rcases f5 with h | ⟨c, hc, hcz⟩
    · exact h6 b (by rw [← h]; exact hb)
    · rw [hb] at hc; cases hc
      have := lt_of_blk h4; omega
theorem TI.lines {W : World} {sb : Nat} {S0 : Value → Array Value} {ls : Nat → List Cl} {i : Nat} {a : Option Addr} {n c : Nat} {wr : World} (h : TI W sb S0 ls i (.slice a n c) wr) : n = i ∧ LinesAt wr.heap.size wr a i ((List.range i).map ls) := by
  obtain ⟨vs, h1, h2, h3, h4, hk, h6⟩ := h
  obtain ⟨a', c', hv, -, -, -, hg, -⟩ := h1.shape
  cases hv
  refine ⟨h2, by simp, ?_⟩
  by_cases h0 : i = 0
  · exact .inl h0
  · obtain ⟨g, rfl⟩ := hg (by omega)
    have hat := h1.at
    refine .inr ⟨g, 0, rfl, hat.2.2.1, fun j l hj => ?_⟩
    have hji : j < i := by have := (List.getElem?_eq_some_iff.1 hj).1; simpa using this
    have hl : l = ls j := by simp [hji] at hj; exact hj.symm
    subst hl
    obtain ⟨v, hv, ho⟩ := h3 j hji
    obtain ⟨a9, c9, rfl, hs9, -, -, -, hb9⟩ := ho.shape
    refine ⟨a9, (ls j).length, c9, by rw [Nat.zero_add]; exact (hat.2.2.2.1 j (by omega)).trans hv, rfl, hs9.2.imp (fun h => h) fun ⟨b, off, he, hc⟩ => ⟨b, off, he, ?_, fun k c hk f hf => hc k c hk f hf⟩⟩
    exact ho.lt b (hb9 b off he)
theorem info73 : (Try.prog.info? 73).map (fun i => (i.zero, i.size, i.bytes)) = some (some (.slice none 0 0), 1, 24) := by kernel_rfl
theorem spot_in {W H mx my X Y x y : Nat} (hx : x < W) (hy : y < H) (hX : X < W) (hY : Y < H) (hmx : 1 ≤ mx ∧ mx ≤ 1048576) (hmy : 1 ≤ my ∧ my ≤ 1048576) : (spotOf W H mx my (X : Int) (Y : Int)).inside (y * W + x) ↔ (X ≤ x ∧ x < X + mx) ∧ (Y ≤ y ∧ y < Y + my) := by
  obtain ⟨e1, e2⟩ := pos_of (y := y) hx
  unfold Spot.inside spotOf
  simp only
  rw [e1, e2]
  have h1 := partS_yes (at' := (X : Int)) (n := (mx : Int)) (side := (W : Int)) (by omega)
  have h2 := partS_yes (at' := (Y : Int)) (n := (my : Int)) (side := (H : Int)) (by omega)
  rw [h1, h2]
  simp only
  omega
theorem partS_all (n : Nat) (h0 : 1 ≤ n) (h : n ≤ 1048576) : partS 0 n n = (0, (n : Int)) := by
  unfold partS
  rw [if_neg (by omega)]
  refine Prod.ext ?_ ?_
  · simp
  · simp only; omega
theorem cutM_all (W H : Nat) (m : List Int) (hW : 1 ≤ W ∧ W ≤ 16384) (hH : 1 ≤ H ∧ H ≤ 16384) (hm : m.length = 4 * (W * H)) : cutM W H 0 0 W H m = (W, H, m) := by
  unfold cutM
  rw [partS_all W hW.1 (by omega), partS_all H hH.1 (by omega)]
  simp only [Int.toNat_zero, Int.toNat_natCast, Nat.sub_zero]
  rw [if_neg (by omega)]
  refine Prod.ext rfl (Prod.ext rfl ?_)
  refine list_ext (by rw [tab_length, hm]) (fun j hj => ?_)
  rw [tab_length] at hj
  rw [tab_get hj]
  unfold cutF cutK
  have hj3 : j / 4 < W * H := by omega
  have h1 := Nat.div_add_mod (j / 4) W
  rw [Nat.add_zero, Nat.add_zero, Nat.mul_comm (j / 4 / W) W, h1]
  congr 1
  omega
/-- One image on an empty screen. -/
theorem img_pix {s : Sc} {ls : List (List Cl)} {W H n mx my X Y x y k : Nat} {bg : Look} {E : List ME} {m : ME} {p : Pz} (hcw : 0 < s.cw) (hch : 0 < s.ch) (hW : W = s.cols * s.cw) (hH : H = s.rows * s.ch) (hn : n = 4 * (W * H))
    (hls : ∀ r c, r < s.rows → c < s.cols → cellS ls r c = ⟨0, 0, bg⟩) (hr0 : ∀ r c, (cellS ls r c).r = 0) (hcur : s.cur = false)
    (hm : lookM E p.im = some m) (hmx : m.x = mx) (hmy : m.y = my) (hreg : regP s.cw s.ch s.top p = ⟨X, Y, mx, my⟩) (hcut : cutM mx my p.x p.y p.w p.h m.p = (mx, my, m.p))
    (h1 : 1 ≤ mx ∧ mx ≤ 1048576) (h2 : 1 ≤ my ∧ my ≤ 1048576) (hX : X < W) (hY : Y < H) (hx : x < W) (hy : y < H) (hk : k < 4) (P : List Int) :
    (drawP s ls (imgsP W H n s.cw s.ch s.top E [p]) W H n P).getD (4 * (y * W + x) + k) 0 =
      if (X ≤ x ∧ x < X + mx) ∧ (Y ≤ y ∧ y < Y + my) then (if k = 3 then 255 else ov (bakB ⟨0, 0, bg⟩ k) (m.p.getD (4 * ((y - Y) * mx + (x - X)) + k) 0) (m.p.getD (4 * ((y - Y) * mx + (x - X)) + 3) 0)) else bakB ⟨0, 0, bg⟩ k := by
  obtain ⟨G, hG⟩ : ∃ G, eachF (groF s ls W H) s.cols s.rows P = G := ⟨_, rfl⟩
  have hgls : ∀ Q, eachF (glsF s ls W H) s.cols s.rows Q = Q := fun Q => eachF_ind (C := fun R => R = Q) (fun r c R hR => by
    unfold glsF
    rw [if_pos (.inl (hr0 r c))]
    exact hR) _ _ rfl
  have hstep : ∀ above Q, imgsP W H n s.cw s.ch s.top E [p] above Q = if decide (0 ≤ p.z) = above then layG W H mx my mx my X Y Q m.p n else Q := by
    intro above Q
    show imgStep W H n s.cw s.ch s.top E above Q p = _
    unfold imgStep
    rw [hm]
    simp only
    rw [hmx, hmy, hreg]
    simp only [Int.toNat_natCast]
    rw [hcut]
    simp only
    by_cases hz : decide (0 ≤ p.z) = above
    · rw [if_pos hz, if_neg (fun h => h.elim (fun h => by omega) (fun h => h hz)), if_pos (by omega)]
    · rw [if_neg hz, if_pos (.inr hz)]
  have hPIC : drawP s ls (imgsP W H n s.cw s.ch s.top E [p]) W H n P = layG W H mx my mx my X Y G m.p n := by
    unfold drawP curP
    rw [if_neg (fun h => by have h3 := h.1; rw [hcur] at h3; cases h3), hG, hstep, hstep, hgls]
    cases decide (0 ≤ p.z) <;> rfl
  have hjn : 4 * (y * W + x) + k < n := by
    have h3 := fit_idx hx hy
    omega
  have hjq : (4 * (y * W + x) + k) / 4 = y * W + x := by omega
  have hjm : (4 * (y * W + x) + k) % 4 = k := by omega
  obtain ⟨e1, e2⟩ := pos_of (y := y) hx
  have hGv : ∀ k', k' < 4 → G.getD (4 * (y * W + x) + k') 0 = bakB ⟨0, 0, bg⟩ k' := fun k' hk' => by
    rw [← hG]
    have h3 := fit_idx hx hy
    have h4 := gro_get (s := s) (ls := ls) hcw hch hW hH (j := 4 * (y * W + x) + k') (by omega) P
    rw [h4]
    rw [show (4 * (y * W + x) + k') / 4 = y * W + x by omega, show (4 * (y * W + x) + k') % 4 = k' by omega, e1, e2]
    rw [hls _ _ (Nat.div_lt_of_lt_mul (by rw [Nat.mul_comm, ← hH]; exact hy)) (Nat.div_lt_of_lt_mul (by rw [Nat.mul_comm, ← hW]; exact hx))]
  rw [hPIC]
  unfold layG
  rw [tab_get hjn]
  unfold paintF
  rw [hjq, hjm]
  have hin := spot_in (mx := mx) (my := my) hx hy hX hY h1 h2
  by_cases hI : (X ≤ x ∧ x < X + mx) ∧ (Y ≤ y ∧ y < Y + my)
  · rw [if_pos (hin.2 hI), if_pos hI]
    unfold layK overK
    have hsrc : srcG W mx my mx my X Y (y * W + x) = (y - Y) * mx + (x - X) := by
      unfold srcG
      rw [e1, e2, show ((y : Int) - (Y : Int)).toNat = y - Y by omega, show ((x : Int) - (X : Int)).toNat = x - X by omega, Nat.mul_div_cancel _ (by omega), Nat.mul_div_cancel _ (by omega)]
    rw [hsrc, hGv k hk]
  · rw [if_neg (fun h => hI (hin.1 h)), if_neg hI, hGv k hk]
/-- A glyph of no character and no flag: its back. -/
theorem gly_back {a : Look} (hf : a.fl = 0) {k : Nat} (hk : k < 4) : (glyP 1 1 0 a).getD k 0 = bakB ⟨0, 0, a⟩ k := by
  have h8 : hasB a.fl 8 = false := by rw [hf]; rfl
  have h128 : hasB a.fl 128 = false := by rw [hf]; rfl
  unfold glyP boxS
  simp only
  have h32 : ¬ ((32 : Int) < 0) := by decide
  simp only [h8, h128, h32, Bool.false_eq_true, if_false]
  rw [layL_get (by omega), if_pos (inR_whole (by omega))]
  unfold bakB
  rw [Nat.mod_eq_of_lt hk]
theorem Kept.setBlock' {w : World} (r : Nat) (o : Obj) : Kept (fun i => i = r) w { w with heap := w.heap.setIfInBounds r o } := by
  refine ⟨rfl, rfl, rfl, ?_, fun k hk hn => ?_⟩
  · show w.heap.size ≤ (w.heap.setIfInBounds r o).size
    simp
  · show (w.heap.setIfInBounds r o)[k]? = _
    rw [Array.getElem?_setIfInBounds_ne (fun e => hn e.symm)]
structure ImgOk (rows cols cw ch mx my row col : Int) (n : Nat) : Prop where
  o_rows : 1 ≤ rows ∧ rows ≤ 10
  o_cols : 1 ≤ cols ∧ cols ≤ 10
  o_cw : 1 ≤ cw ∧ cw ≤ 6
  o_ch : 1 ≤ ch ∧ ch ≤ 6
  o_row : 0 ≤ row ∧ row < rows
  o_col : 0 ≤ col ∧ col < cols
  o_mx : 1 ≤ mx ∧ mx ≤ 40
  o_my : 1 ≤ my ∧ my ≤ 40
  o_n : (n : Int) = 4 * mx * my
theorem mapIns (w w2 : World) (r : Nat) (val : Value) (hb : w.heap[r]? = some (.map #[] 0)) (hw : ({ w with heap := w.heap.setIfInBounds r (.map #[{ key := .int .i64 4, val := val, born := 0 }] 1) } : World) = w2) : (Instr.mapUpdate 24 (.map (some r)) (.int .i64 4) val).run Try.prog w = .ok () w2 := by
  have hf : Instr.findNow (.int .i64) (.int .i64 4) ([] : List MapEntry) 0 = some none := rfl
  have hc : (Instr.checkKey false 10000 3 (.int .i64 4)).run Try.prog w = .ok () w := MapKept.run_checkKey (k := .int .i64 4) under3 (by simp [MapKept.IsKey]) false 9999
  rw [← hw]
  simp [Instr.mapUpdate, run_underlying under24, MapKept.run_getObj_map hb, hc, MapKept.run_findKey under3 hf, MapKept.run_setObj_map _ hb, Result.andThen]
theorem set_look {w : World} {b : Nat} {x0 x1 x2 : Value} {t : TypeId} (h : w.heap[b]? = some (.cells #[x0, x1, x2] t (0, 0))) (v : Value) :
    ∃ V, w.setCell ⟨b, 2, none⟩ v = V ∧ w.cell? ⟨b, 2, none⟩ = some x2 ∧ w.frozen? ⟨b, 2, none⟩ = false ∧ V.heap[b]? = some (.cells #[x0, x1, v] t (0, 0)) ∧ Kept (fun i => i = b) w V :=
  ⟨_, rfl, blk_cell h 2, blk_free h 2, blk_set h 2 v, (Kept.refl (fun i => i = b) w).setCell (p := ⟨b, 2, none⟩) (.inl rfl) v⟩
theorem zero4 {w : World} {b : Nat} {x0 x1 x2 x3 x4 x5 x6 : Value} {t : TypeId} (h : w.heap[b]? = some (.cells #[x0, x1, x2, x3, x4, x5, x6, .int .i64 0, .bool false, .int .i64 0, .int .i64 0] t (0, 0))) :
    ∃ V1 V2 V3 V4, w.setCell ⟨b, 7, none⟩ (.int .i64 0) = V1 ∧ V1.setCell ⟨b, 8, none⟩ (.bool false) = V2 ∧ V2.setCell ⟨b, 9, none⟩ (.int .i64 0) = V3 ∧ V3.setCell ⟨b, 10, none⟩ (.int .i64 0) = V4 ∧ (w.cell? ⟨b, 7, none⟩ = some (.int .i64 0) ∧ w.frozen? ⟨b, 7, none⟩ = false) ∧ (V1.cell? ⟨b, 8, none⟩ = some (.bool false) ∧ V1.frozen? ⟨b, 8, none⟩ = false) ∧
      (V2.cell? ⟨b, 9, none⟩ = some (.int .i64 0) ∧ V2.frozen? ⟨b, 9, none⟩ = false) ∧ (V3.cell? ⟨b, 10, none⟩ = some (.int .i64 0) ∧ V3.frozen? ⟨b, 10, none⟩ = false) ∧ V4.heap[b]? = some (.cells #[x0, x1, x2, x3, x4, x5, x6, .int .i64 0, .bool false, .int .i64 0, .int .i64 0] t (0, 0)) ∧ Kept (fun i => i = b) w V4 := by
  have h1 := blk_set h 7 (.int .i64 0)
  have h2 := blk_set h1 8 (.bool false)
  have h3 := blk_set h2 9 (.int .i64 0)
  have h4 := blk_set h3 10 (.int .i64 0)
  exact ⟨_, _, _, _, rfl, rfl, rfl, rfl, ⟨blk_cell h 7, blk_free h 7⟩, ⟨blk_cell h1 8, blk_free h1 8⟩, ⟨blk_cell h2 9, blk_free h2 9⟩, ⟨blk_cell h3 10, blk_free h3 10⟩, h4, ((((Kept.refl (fun i => i = b) w).setCell (p := ⟨b, 7, none⟩) (.inl rfl) _).setCell (p := ⟨b, 8, none⟩) (.inl rfl) _).setCell (p := ⟨b, 9, none⟩) (.inl rfl) _).setCell (p := ⟨b, 10, none⟩) (.inl rfl) _⟩
set_option maxRecDepth 100000 in
set_option maxHeartbeats 8000000 in
theorem img_go (rN cN wN hN mX mY : Nat) (a : Option Addr) (n cap : Nat) (mp : List Int) (oN pN : Nat) (fg bg fl z : Int) (W : World) (hsm : SlAt .u8 W a n mp) (hby : IsBytes mp) (hca : n ≤ cap ∧ cap ≤ 9223372036854775807) (hab : ∀ b off, 0 < n → a = some ⟨b, off, none⟩ → b < W.heap.size) (hnil : a = none → n = 0 ∧ cap = 0) (hzz : I64 z)
    (hok : (1 ≤ rN ∧ rN ≤ 10) ∧ (1 ≤ cN ∧ cN ≤ 10) ∧ (1 ≤ wN ∧ wN ≤ 6) ∧ (1 ≤ hN ∧ hN ≤ 6) ∧ oN < rN ∧ pN < cN ∧ (1 ≤ mX ∧ mX ≤ 40) ∧ (1 ≤ mY ∧ mY ≤ 40) ∧ n = 4 * (mX * mY)) :
    Calls Try.prog 7 #[.int .i64 rN, .int .i64 cN, .int .i64 wN, .int .i64 hN, .agg #[.int .i64 mX, .int .i64 mY, .slice a n cap], .int .i64 oN, .int .i64 pN, .agg #[.int .i64 fg, .int .i64 bg, .int .i64 fl], .int .i64 z] W fun e w' => e = .returned (.bool true) ∧ Below W.heap.size W w' := by
  obtain ⟨V, hV⟩ : ∃ V, (W.alloc (.cells #[.int .i64 mX, .int .i64 mY, .slice a n cap] 31)).alloc (.cells #[.int .i64 fg, .int .i64 bg, .int .i64 fl] 54) = V := ⟨_, rfl⟩
  have kV : Kept (fun _ => False) W V := by rw [← hV]; exact ((Kept.refl _ _).alloc _).alloc _
  have b0 : V.heap[W.heap.size]? = some (.cells #[.int .i64 mX, .int .i64 mY, .slice a n cap] 31 (0, 0)) := by rw [← hV]; exact blk_alloc (blk_new _ _) _
  have b1 : V.heap[W.heap.size + 1]? = some (.cells #[.int .i64 fg, .int .i64 bg, .int .i64 fl] 54 (0, 0)) := by rw [← hV]; exact blk_at _ _ (by simp)
  have HV := Lib.hid (And.intro kV (And.intro b0 b1))
  have HM0 := Lib.hid (And.intro hsm (And.intro hby (And.intro hca (And.intro hab (And.intro hnil hzz)))))
  have HOK := Lib.hid hok
  obtain ⟨A1, hA1⟩ : ∃ x, 4 * mX = x := ⟨_, rfl⟩
  have hA2 : A1 * mY = n := by rw [← hA1, Nat.mul_assoc]; omega
  have aa1 : (4 : Int) * (mX : Int) = (A1 : Int) := by rw [← hA1]; simp
  have aa2 : (A1 : Int) * (mY : Int) = (n : Int) := by rw [← hA2]; simp
  have hMMb : mX * mY ≤ 40 * 40 := Nat.mul_le_mul (by omega) (by omega)
  have au1 : IntKind.i64.wrap (A1 : Int) = (A1 : Int) := IntWalk.i64_in _ (by omega)
  have au2 : IntKind.i64.wrap (n : Int) = (n : Int) := IntWalk.i64_in _ (by omega)
  have g0 : decide (rN < 1) = false := decide_eq_false (by omega)
  have g0i : decide ((rN : Int) < 1) = false := decide_eq_false (by omega)
  have g1 : decide (cN < 1) = false := decide_eq_false (by omega)
  have g1i : decide ((cN : Int) < 1) = false := decide_eq_false (by omega)
  have g2 : decide (10 < rN) = false := decide_eq_false (by omega)
  have g2i : decide (10 < (rN : Int)) = false := decide_eq_false (by omega)
  have g3 : decide (10 < cN) = false := decide_eq_false (by omega)
  have g3i : decide (10 < (cN : Int)) = false := decide_eq_false (by omega)
  have g4 : decide (wN < 1) = false := decide_eq_false (by omega)
  have g4i : decide ((wN : Int) < 1) = false := decide_eq_false (by omega)
  have g5 : decide (hN < 1) = false := decide_eq_false (by omega)
  have g5i : decide ((hN : Int) < 1) = false := decide_eq_false (by omega)
  have g6 : decide (6 < wN) = false := decide_eq_false (by omega)
  have g6i : decide (6 < (wN : Int)) = false := decide_eq_false (by omega)
  have g7 : decide (6 < hN) = false := decide_eq_false (by omega)
  have g7i : decide (6 < (hN : Int)) = false := decide_eq_false (by omega)
  have g8 : decide (oN < 0) = false := decide_eq_false (by omega)
  have g8i : decide ((oN : Int) < 0) = false := decide_eq_false (by omega)
  have g9 : decide (rN ≤ oN) = false := decide_eq_false (by omega)
  have g9i : decide ((rN : Int) ≤ (oN : Int)) = false := decide_eq_false (by omega)
  have g10 : decide (pN < 0) = false := decide_eq_false (by omega)
  have g10i : decide ((pN : Int) < 0) = false := decide_eq_false (by omega)
  have g11 : decide (cN ≤ pN) = false := decide_eq_false (by omega)
  have g11i : decide ((cN : Int) ≤ (pN : Int)) = false := decide_eq_false (by omega)
  have g12 : decide (mX < 1) = false := decide_eq_false (by omega)
  have g12i : decide ((mX : Int) < 1) = false := decide_eq_false (by omega)
  have g13 : decide (mY < 1) = false := decide_eq_false (by omega)
  have g13i : decide ((mY : Int) < 1) = false := decide_eq_false (by omega)
  have g14 : decide (40 < mX) = false := decide_eq_false (by omega)
  have g14i : decide (40 < (mX : Int)) = false := decide_eq_false (by omega)
  have g15 : decide (40 < mY) = false := decide_eq_false (by omega)
  have g15i : decide (40 < (mY : Int)) = false := decide_eq_false (by omega)
  clear kV b0 b1 hsm hby hca hab hnil hzz hok hA1 hA2 hMMb
  go_enter Try.func7, Try.ntmps7
  go_wp2_with fail
  refine (known_any _).mono ?_
  rintro e w1 ⟨rfl, hk1⟩
  obtain ⟨⟨x0, -⟩, ⟨x1, -⟩, x2, -⟩ := blk3 (hk1.blk HV.out.2.1 id)
  have HKC := Lib.hid (And.intro (HV.out.1.then hk1) (And.intro (hk1.blk HV.out.2.1 id) (hk1.blk HV.out.2.2 id)))
  clear hk1
  obtain ⟨V2, hV2, lz, lz', b2, k2⟩ := set_look HKC.out.2.2 (.int .i64 0)
  have sW := HKC.out.1.size
  have bl0 := lt_of_blk HKC.out.2.1
  have bm2 := k2.blk HKC.out.2.1 (fun (h : W.heap.size = W.heap.size + 1) => by omega)
  have kW2 : Kept (fun _ => False) W V2 := HKC.out.1.trans (k2.mono fun i _ hi => Or.inr (by have h9 : i = W.heap.size + 1 := hi; omega))
  obtain ⟨r, hr⟩ : ∃ r, V2.heap.size = r := ⟨_, rfl⟩
  obtain ⟨M1, hM1⟩ : ∃ X, V2.alloc (.map #[] 0) = X := ⟨_, rfl⟩
  have kM1 : Kept (fun _ => False) V2 M1 := by rw [← hM1]; exact (Kept.refl _ _).alloc _
  have hmk : (Instr.makeMap 24 none).run Try.prog V2 = .ok (.map (some r)) M1 := by rw [← hr, ← hM1]; exact run_makeMap 24 V2
  have bM1 : M1.heap[r]? = some (.map #[] 0) := by rw [← hM1]; exact blk_at _ _ hr.symm
  obtain ⟨⟨y0, -⟩, ⟨y1, -⟩, y2, -⟩ := blk3 (kM1.blk bm2 id)
  obtain ⟨ME1, hME1⟩ : ∃ m : ME, m = ⟨4, mX, mY, a, n, cap, mp, 0⟩ := ⟨_, rfl⟩
  obtain ⟨M2, hM2⟩ : ∃ X, ({ M1 with heap := M1.heap.setIfInBounds r (.map #[{ key := .int .i64 4, val := .agg #[.int .i64 mX, .int .i64 mY, .slice a n cap], born := 0 }] 1) } : World) = X := ⟨_, rfl⟩
  have hins := mapIns M1 M2 r (.agg #[.int .i64 mX, .int .i64 mY, .slice a n cap]) bM1 hM2
  have kM2 : Kept (fun i => i = r) M1 M2 := by rw [← hM2]; exact Kept.setBlock' r _
  have bM2 : M2.heap[r]? = some (.map #[ME1.entry] 1) := by
    rw [← hM2, hME1]
    have := lt_of_blk bM1
    show (M1.heap.setIfInBounds r _)[r]? = _
    simp [this, ME.entry, ME.val]
  have kVM : Kept (fun _ => False) V2 M2 := kM1.trans (kM2.mono fun i _ hi => Or.inr (by have h9 : i = r := hi; omega))
  obtain ⟨S, hS⟩ : ∃ X, M2.alloc (.cells #[.int .i64 rN, .int .i64 cN, .int .i64 wN, .int .i64 hN, .slice none 0 0, .slice none 0 0, .map (some r), .int .i64 0, .bool false, .int .i64 0, .int .i64 0] 26) = X := ⟨_, rfl⟩
  have kS : Kept (fun _ => False) M2 S := by rw [← hS]; exact (Kept.refl _ _).alloc _
  have bS : S.heap[M2.heap.size]? = some (.cells #[.int .i64 rN, .int .i64 cN, .int .i64 wN, .int .i64 hN, .slice none 0 0, .slice none 0 0, .map (some r), .int .i64 0, .bool false, .int .i64 0, .int .i64 0] 26 (0, 0)) := by rw [← hS]; exact blk_new _ _
  obtain ⟨S7, S8, S9, S10, e7, e8, e9, e10, ⟨c7, f7⟩, ⟨c8, f8⟩, ⟨c9, f9⟩, ⟨c10, f10⟩, bS10, kS10⟩ := zero4 bS
  obtain ⟨sb, hsb⟩ : ∃ x, M2.heap.size = x := ⟨_, rfl⟩
  have kMS : Kept (fun _ => False) M2 S10 := kS.trans (kS10.mono fun i _ hi => Or.inr (by have h9 : i = M2.heap.size := hi; omega))
  obtain ⟨S0, hS0⟩ : ∃ S : Value → Array Value, S = fun gv => #[.int .i64 rN, .int .i64 cN, .int .i64 wN, .int .i64 hN, gv, .slice none 0 0, .map (some r), .int .i64 0, .bool false, .int .i64 0, .int .i64 0] := ⟨_, rfl⟩
  obtain ⟨LS, hLS⟩ : ∃ L : Nat → List Cl, L = fun _ => List.replicate cN ⟨0, 0, ⟨fg, bg, 0⟩⟩ := ⟨_, rfl⟩
  have HT0 := Lib.hid (show TI M2 M2.heap.size S0 LS 0 (.slice none 0 0) S10 from ⟨[], OwnV.nil _ _, rfl, (fun j hj => absurd hj (Nat.not_lt_zero j)), by rw [hS0]; exact bS10, kMS, fun b h => by cases h⟩)
  have HM2 := Lib.hid (And.intro (kW2.then kVM) (And.intro (kVM.blk bm2 id) (And.intro (kVM.blk b2 id) bM2)))
  have HS0 := Lib.hid hS0
  have HLS := Lib.hid hLS
  have HME := Lib.hid hME1
  have h63 : (9223372036854775807 : Nat) = maxLen := rfl
  clear k2 sW bl0 bm2 b2 kW2 kM1 bM1 kM2 bM2 kVM kS bS bS10 kS10 kMS hS0 hLS hME1 hsb
  go_wp2
  clear lz lz' c7 c8 c9 c10 f7 f8 f9 f10 y0 y1 y2 hins hmk x0 x1 x2
  go_loopg [20] rN (fun gg iv wr => ∃ (i : Nat) (gv : Value), rN ≤ gg + i ∧ i ≤ rN ∧ iv = .int .i64 (i : Int) ∧ TI M2 M2.heap.size S0 LS i gv wr)
  case atStart => exact ⟨0, _, by omega, by omega, rfl, HT0.out⟩
  case round =>
    obtain ⟨i, gv, hgg, hir, rfl, hti⟩ := hrel
    by_cases hi1 : i < rN
    · have q1 : decide (i < rN) = true := decide_eq_true hi1
      have q1' : decide ((i : Int) < (rN : Int)) = true := decide_eq_true (by omega)
      have wi : IntKind.i64.wrap ((i : Int) + 1) = (i : Int) + 1 := IntWalk.i64_in _ (by have := HOK.out; omega)
      obtain ⟨vs, t1, t2, t3, t4, t5, t6⟩ := hti
      obtain ⟨ga, gc, hge, -⟩ := t1.shape
      rw [t2] at hge
      subst hge
      obtain ⟨WR, hWR⟩ : ∃ WR, WR = wr.drew := ⟨_, rfl⟩
      have kR : Kept (fun _ => False) wr WR := by rw [hWR]; exact (Kept.refl _ _).drew
      obtain ⟨⟨l0, -⟩, ⟨l1, -⟩, l2, -⟩ := blk3 ((t5.then kR).blk HM2.out.2.2.1 id)
      have t4' := t4
      rw [HS0.out] at t4'
      have s4 := blk_cell (kR.blk t4' id) 4
      have X0 := cell_regrown l0
      have X1 := cell_regrown l1
      have X2 := cell_regrown l2
      have X4 := cell_regrown s4
      obtain ⟨R4, hR4⟩ : ∃ R : Value → World → Prop, R = fun v w' => ∃ g c, v = .slice (some ⟨g, 0, none⟩) cN c ∧ OwnC w' (.slice (some ⟨g, 0, none⟩) cN c) (List.replicate cN ⟨0, 0, ⟨fg, bg, 0⟩⟩) := ⟨_, rfl⟩
      obtain ⟨R5, hR5⟩ : ∃ R : Value → World → Prop, R = fun v w' => ∃ b g c, v = .slice (some ⟨b, 0, none⟩) 1 1 ∧ w'.heap[b]? = some (.cells #[.slice (some ⟨g, 0, none⟩) cN c] 73 (0, 0)) ∧ OwnC w' (.slice (some ⟨g, 0, none⟩) cN c) (List.replicate cN ⟨0, 0, ⟨fg, bg, 0⟩⟩) := ⟨_, rfl⟩
      have HR4 := Lib.hid hR4
      have HR5 := Lib.hid hR5
      have HWR := Lib.hid hWR
      have HKR := Lib.hid kR
      obtain ⟨i0, hi0, hz0, hs0, hb0⟩ := info_parts info73
      have HI0 := Lib.hid (And.intro hi0 (And.intro hz0 (And.intro hs0 hb0)))
      have HNL := Lib.hid (fun (w : World) => show Calls Try.prog 25 #[.int .i64 cN, .agg #[.int .i64 fg, .int .i64 bg, .int .i64 0]] w fun e w' => ∃ v, e = .returned v ∧ MadeC w (List.replicate cN ⟨0, 0, ⟨fg, bg, 0⟩⟩) v w' from newl_any cN ⟨fg, bg, 0⟩ w (by have := HOK.out; omega))
      have HTT := Lib.hid (And.intro t1 (And.intro t2 (And.intro t3 (And.intro t4 (And.intro t5 t6)))))
      clear t1 t2 t3 t4 t5 t6 t4' l0 l1 l2 s4 hi0 hz0 hs0 hb0 kR hR4 hR5 hWR
      go_wp2
      refine wp_region_grow #[0, 1, 0, 0, 12, 28, 63, 127, 255] 6 [] (fun i => if i = 4 then some R4 else if i = 5 then some R5 else none) (by kernel_rfl) rfl (by kernel_rfl) (fun i hi => by cases hi) (fun _ _ _ _ _ h => h) ?_
      rintro _ rfl
      rw [← HWR.out]
      simp only [List.take_succ_cons, List.take_zero, List.drop_succ_cons, List.drop_zero, number, Nat.reduceAdd]
      refine wpGrow_step (fun K hK => ?_); go_simp; refine hK _ _ ?_; clear hK K
      refine wpGrow_step (fun K hK => ?_); go_simp; refine hK _ _ ?_; clear hK K
      refine wpGrow_step (fun K hK => ?_); go_simp; refine hK _ _ ?_; clear hK K
      refine wpGrow_step (fun K hK => ?_); go_simp; refine hK _ _ ?_; clear hK K
      refine wpGrow_step (fun K hK => ?_)
      go_simp
      refine ⟨fun w' hg => ?_, fun v4 w4 hv4 _ => ?_⟩
      · refine (HNL.out w').mono ?_
        rintro e w5 ⟨v, rfl, ho, hk, hb⟩
        refine ⟨v, rfl, hk, ?_⟩
        rw [HR4.out]
        obtain ⟨g, c, cur, hv, -⟩ := ho.blk (by rw [List.length_replicate]; have := HOK.out; omega)
        rw [List.length_replicate] at hv
        subst hv
        exact ⟨g, c, rfl, ho⟩
      rw [HR4.out] at hv4
      obtain ⟨xg, xc, rfl, ho4⟩ := hv4
      have HO4 := Lib.hid ho4
      clear ho4
      refine hK _ _ ?_; clear hK K
      refine wpGrow_step (fun K hK => ?_)
      go_simp
      refine ⟨fun w' hg => ⟨(Kept.refl _ _).alloc _, ?_⟩, fun v5 w5 hv5 _ => ?_⟩
      · rw [HR5.out]
        exact ⟨w'.heap.size, xg, xc, rfl, blk_new _ _, ((HO4.out.kept (hg.seen 4 (by kernel_rfl)) (fun _ _ => id)).kept ((Kept.refl (fun _ => False) _).alloc _) (fun _ _ => id))⟩
      rw [HR5.out] at hv5
      obtain ⟨lb, yg, yc, rfl, hb5, ho5⟩ := hv5
      have H5 := Lib.hid (And.intro hb5 ho5)
      clear hb5 ho5
      refine hK _ _ ?_; clear hK K
      refine wpGrow_nil ?_
      intro w10 hk10 hω
      have hk5 : Kept (fun _ => False) w5 w10 := hω 5
      have hkA := HKR.out.then hk10
      have bL := hk5.blk H5.out.1 id
      have oL := H5.out.2.kept hk5 (fun _ _ => id)
      have hsbw : ∀ w', Kept (fun k => (Value.slice ga i gc).ownBlock = some k) w10 w' → w'.cell? ⟨M2.heap.size, 4, none⟩ = some (.slice ga i gc) ∧ w'.frozen? ⟨M2.heap.size, 4, none⟩ = false := fun w' hk => by
        have hb := hk.blk (hkA.blk HTT.out.2.2.2.1 id) (fun h => Nat.lt_irrefl _ (HTT.out.2.2.2.2.2 _ h))
        rw [HS0.out] at hb
        exact ⟨blk_cell hb 4, blk_free hb 4⟩
      have HSB := Lib.hid hsbw
      have HV1 := Lib.hid (And.intro (HTT.out.1.kept hkA (fun _ _ => id)) (And.intro (one_lit bL) (And.intro hkA (And.intro HTT.out.2.1 oL))))
      clear hω hk10 hk5 hkA bL oL hsbw X0 X1 X2 X4
      go_wp2_with (at_builtin; refine wpList_appV rfl (.tmp 131) (.tmp 135) 22 rfl 73 i0 _ 24 Try.underlying22 HI0.out.1 HI0.out.2.1 HI0.out.2.2.1 HI0.out.2.2.2 rfl (.slice ga i gc) vs rfl HV1.out.1 (some ⟨lb, 0, none⟩) 1 1 [.slice (some ⟨yg, 0, none⟩) cN yc] rfl (fun h => by cases h) rfl (by intro u hu; cases hu with | head => rfl | tail _ h => cases h) HV1.out.2.1 (by rw [HV1.out.2.2.2.1]; have := HOK.out; omega) (by rw [HV1.out.2.2.2.1]; have := HOK.out; omega) ?_; intro v8 w8 ho8 hk8 hpr8; obtain ⟨va, vc, hve, -⟩ := ho8.shape; obtain ⟨vl, hvl⟩ : ∃ n, (vs ++ [Value.slice (some ⟨yg, 0, none⟩) cN yc]).length = n := ⟨_, rfl⟩; rw [hvl] at hve; subst hve; obtain ⟨p4, p4'⟩ := HSB.out w8 hk8; have H8 := Lib.hid (And.intro ho8 (And.intro hk8 hpr8)); clear ho8 hk8 hpr8 hvl)
      obtain ⟨U, hU⟩ : ∃ U, w8.setCell ⟨M2.heap.size, 4, none⟩ (.slice va vl vc) = U := ⟨_, rfl⟩
      have HTN := Lib.hid (show TI M2 M2.heap.size S0 LS (i + 1) (.slice va vl vc) U from by
        rw [← hU]
        have hk := HV1.out.2.2.1
        exact TI.next HV1.out.1 HTT.out.2.1 (fun j hj => by
          obtain ⟨v, hv, ho⟩ := HTT.out.2.2.1 j hj
          exact ⟨v, hv, ho.kept hk (fun _ _ => id)⟩) (hk.blk HTT.out.2.2.2.1 id) (HTT.out.2.2.2.2.1.then hk) HTT.out.2.2.2.2.2 (fun u => by rw [HS0.out]; rfl) (Nat.le_refl _) (Kept.refl _ _) H8.out.1 H8.out.2.1 H8.out.2.2 (by rw [HLS.out]; exact HV1.out.2.2.2.2))
      go_roundg (gk - 1)
      case rel => exact ⟨i + 1, .slice va vl vc, by omega, by omega, by go_num, by rw [hU]; exact HTN.out⟩
      case measure => omega
    · obtain rfl : i = rN := by omega
      have q1 : decide (i < i) = false := decide_eq_false (by omega)
      have hti0 := hti
      obtain ⟨vs, t1, t2, t3, t4, t5, t6⟩ := hti0
      obtain ⟨ga, gc, hge, -⟩ := t1.shape
      rw [t2] at hge
      subst hge
      obtain ⟨WR, hWR⟩ : ∃ WR, WR = wr.drew := ⟨_, rfl⟩
      have kR : Kept (fun _ => False) wr WR := by rw [hWR]; exact (Kept.refl _ _).drew
      obtain ⟨⟨d0, -⟩, ⟨d1, -⟩, d2, -⟩ := blk3 ((t5.then kR).blk HM2.out.2.1 id)
      have X0 := cell_regrown d0
      have X1 := cell_regrown d1
      have hok := HOK.out
      obtain ⟨pr, hpr⟩ : ∃ x : Int, ((mY : Int) + hN - 1) / hN = x := ⟨_, rfl⟩
      obtain ⟨pc, hpc⟩ : ∃ x : Int, ((mX : Int) + wN - 1) / wN = x := ⟨_, rfl⟩
      obtain ⟨zr, hzr⟩ : ∃ x : Int, z.tmod 100 = x := ⟨_, rfl⟩
      have bpr : 1 ≤ pr ∧ pr ≤ 46 := by rw [← hpr]; exact ⟨Int.le_ediv_of_mul_le (by omega) (by omega), Int.le_trans (Int.ediv_le_self _ (by omega)) (by omega)⟩
      have bpc : 1 ≤ pc ∧ pc ≤ 46 := by rw [← hpc]; exact ⟨Int.le_ediv_of_mul_le (by omega) (by omega), Int.le_trans (Int.ediv_le_self _ (by omega)) (by omega)⟩
      have bzr : -100 < zr ∧ zr < 100 := by
        rw [← hzr]
        have h1 := Int.tmod_lt_of_pos z (show (0 : Int) < 100 by omega)
        have h2 := Int.lt_tmod_of_pos z (show (0 : Int) < 100 by omega)
        exact ⟨h2, h1⟩
      have v1 : ((mY : Int) + hN - 1).tdiv hN = pr := by rw [Int.tdiv_eq_ediv_of_nonneg (by omega)]; exact hpr
      have v2 : ((mX : Int) + wN - 1).tdiv wN = pc := by rw [Int.tdiv_eq_ediv_of_nonneg (by omega)]; exact hpc
      have u1 : IntKind.i64.wrap ((mY : Int) + hN) = (mY : Int) + hN := IntWalk.i64_in _ (by omega)
      have u2 : IntKind.i64.wrap ((mY : Int) + hN - 1) = (mY : Int) + hN - 1 := IntWalk.i64_in _ (by omega)
      have u3 : IntKind.i64.wrap pr = pr := IntWalk.i64_in _ (by omega)
      have u4 : IntKind.i64.wrap ((mX : Int) + wN) = (mX : Int) + wN := IntWalk.i64_in _ (by omega)
      have u5 : IntKind.i64.wrap ((mX : Int) + wN - 1) = (mX : Int) + wN - 1 := IntWalk.i64_in _ (by omega)
      have u6 : IntKind.i64.wrap pc = pc := IntWalk.i64_in _ (by omega)
      have u7 : IntKind.i64.wrap zr = zr := IntWalk.i64_in _ (by omega)
      have z1 : ((hN : Int) == 0) = false := by simp; omega
      have z2 : ¬ hN = 0 := by omega
      have z3 : ¬ (hN : Int) = 0 := by omega
      have z4 : ((wN : Int) == 0) = false := by simp; omega
      have z5 : ¬ wN = 0 := by omega
      have z6 : ¬ (wN : Int) = 0 := by omega
      obtain ⟨PZ, hPZ⟩ : ∃ p : Pz, p = ⟨4, 0, false, oN, pN, pr, pc, 0, 0, mX, mY, 0, 0, zr⟩ := ⟨_, rfl⟩
      have HPZ := Lib.hid (show PZ.Ok ∧ regP wN hN 0 PZ = ⟨((pN * wN : Nat) : Int), ((oN * hN : Nat) : Int), mX, mY⟩ from by
        rw [hPZ]
        refine ⟨⟨by unfold I64; simp only; omega, by simp only; omega, by simp only; omega, by simp only; omega, by simp only; omega, by unfold I64; simp only; omega, by unfold I64; simp only; omega, by simp only; omega, by simp only; omega, by simp only; omega, by simp only; omega, by unfold I64; simp only; omega⟩, ?_⟩
        have hf : fitsP wN hN ⟨4, 0, false, oN, pN, pr, pc, 0, 0, mX, mY, 0, 0, zr⟩ := by
          unfold fitsP
          simp only
          rw [Int.add_zero, Int.add_zero, hpr, hpc]
          exact ⟨rfl, rfl⟩
        unfold regP regW regH
        rw [if_pos hf, if_pos hf]
        simp only
        rw [if_pos (by omega)]
        simp)
      have HWR := Lib.hid hWR
      have HKR := Lib.hid (And.intro (t5.then kR) (And.intro (kR.blk t4 id) kR))
      have HT9 := Lib.hid (And.intro t1 (And.intro t2 (And.intro t3 (And.intro t4 t6))))
      have HPZ0 := Lib.hid hPZ
      clear hti t1 t2 t3 t4 t5 t6 kR hWR d0 d1 d2 hok hpr hpc bpr bpc bzr hPZ
      go_wp2
      refine wp_region_grow #[0, 0, 0, 4, 0, 28, 60, 0, 252, 0, 512, 0, 3584, 7680, 0, 32256, 0, 65536, 0, 262144, 0, 1048576, 4194303, 8388607, 16777215, 33554431] 22 [] (fun i => none) (by kernel_rfl) rfl (by kernel_rfl) (fun i hi => by cases hi) (fun _ _ _ _ _ h => h) ?_
      rintro _ rfl
      rw [← HWR.out]
      simp only [List.take_succ_cons, List.take_zero, List.drop_succ_cons, List.drop_zero, number, Nat.reduceAdd]
      repeat (refine wpGrow_step (fun K hK => ?_); go_simp; refine hK _ _ ?_; clear hK K)
      refine wpGrow_nil ?_
      intro w10 hk10 hω
      obtain ⟨q, hq⟩ : ∃ x, w10.heap.size = x := ⟨_, rfl⟩
      obtain ⟨A, hA⟩ : ∃ X, w10.alloc (.cells #[.int .i64 4, .int .i64 0, .bool false, .int .i64 oN, .int .i64 pN, .int .i64 pr, .int .i64 pc, .int .i64 0, .int .i64 0, .int .i64 mX, .int .i64 mY, .int .i64 0, .int .i64 0, .int .i64 zr] 48) = X := ⟨_, rfl⟩
      have kA : Kept (fun _ => False) w10 A := by rw [← hA]; exact (Kept.refl _ _).alloc _
      have bA : A.heap[q]? = some (.cells #[.int .i64 4, .int .i64 0, .bool false, .int .i64 oN, .int .i64 pN, .int .i64 pr, .int .i64 pc, .int .i64 0, .int .i64 0, .int .i64 mX, .int .i64 mY, .int .i64 0, .int .i64 0, .int .i64 zr] 48 (0, 0)) := by rw [← hA]; exact blk_at _ _ hq.symm
      have bsA := (hk10.then kA).blk HKR.out.2.1 id
      rw [HS0.out] at bsA
      have s5 := blk_cell bsA 5
      have s5' := blk_free bsA 5
      obtain ⟨B, hB⟩ : ∃ X, A.setCell ⟨M2.heap.size, 5, none⟩ (.slice (some ⟨q, 0, none⟩) 1 1) = X := ⟨_, rfl⟩
      have bsB : B.heap[M2.heap.size]? = some (.cells #[.int .i64 i, .int .i64 cN, .int .i64 wN, .int .i64 hN, .slice ga i gc, .slice (some ⟨q, 0, none⟩) 1 1, .map (some r), .int .i64 0, .bool false, .int .i64 0, .int .i64 0] 26 (0, 0)) := by rw [← hB]; exact blk_set bsA 5 _
      have kB : Kept (fun j => j = M2.heap.size) A B := by rw [← hB]; exact (Kept.refl (fun j => j = M2.heap.size) A).setCell (p := ⟨M2.heap.size, 5, none⟩) (.inl rfl) _
      have sq : M2.heap.size < q := by have := lt_of_blk (hk10.blk HKR.out.2.1 id); omega
      have bqB := kB.blk bA (fun (h : q = M2.heap.size) => by omega)
      have kMB : Kept (fun _ => False) M2 B := (HKR.out.1.then (hk10.then kA)).trans (kB.mono fun j _ hj => Or.inr (by have h9 : j = M2.heap.size := hj; omega))
      have kwB : Kept (fun j => j = M2.heap.size) WR B := ((hk10.then kA).mono (fun _ _ h => h.elim) : Kept (fun j => j = M2.heap.size) WR A).then kB
      obtain ⟨x0, x1, x2, x3, x4, x5, x6, x7, x8, x9, x10⟩ := blk11 bsB
      -- the picture
      have hok := HOK.out
      obtain ⟨PW, hPW⟩ : ∃ x, cN * wN = x := ⟨_, rfl⟩
      obtain ⟨PH, hPH⟩ : ∃ x, i * hN = x := ⟨_, rfl⟩
      have hPWb : PW ≤ 10 * 6 := by rw [← hPW]; exact Nat.mul_le_mul (by omega) (by omega)
      have hPHb : PH ≤ 10 * 6 := by rw [← hPH]; exact Nat.mul_le_mul (by omega) (by omega)
      have hWHb : PW * PH ≤ 60 * 60 := Nat.mul_le_mul hPWb hPHb
      have hPW1 : 1 ≤ PW := by rw [← hPW]; exact Nat.mul_pos (by omega) (by omega)
      have hPH1 : 1 ≤ PH := by rw [← hPH]; exact Nat.mul_pos (by omega) (by omega)
      obtain ⟨NN, hNN⟩ : ∃ x, 4 * (PW * PH) = x := ⟨_, rfl⟩
      have hPWH : 1 ≤ PW * PH := Nat.mul_pos hPW1 hPH1
      obtain ⟨SC, hSC⟩ : ∃ s : Sc, s = ⟨i, cN, wN, hN, ga, i, gc, some ⟨q, 0, none⟩, 1, 1, some r, 0, false, 0, 0⟩ := ⟨_, rfl⟩
      have hdim : Dim SC PW PH NN := by
        rw [hSC]
        exact ⟨by show i ≤ 1000; omega, by show cN ≤ 1000; omega, by show 1 ≤ wN ∧ wN ≤ 64; omega, by show 1 ≤ hN ∧ hN ≤ 64; omega, by omega, by omega, hNN.symm, by omega⟩
      have hszP : sizeB (PW : Int) (PH : Int) = true := by
        unfold sizeB
        refine decide_eq_true (.inr ⟨by omega, by omega, by omega, by omega, ?_⟩)
        rw [← Int.natCast_mul]; omega
      have hMM : mX * mY ≤ 40 * 40 := Nat.mul_le_mul (by omega) (by omega)
      have hrM : rightM ⟨mX, mY, mp⟩ = true := by
        unfold rightM
        rw [Bool.and_eq_true]
        refine ⟨?_, decide_eq_true ?_⟩
        · show sizeB (mX : Int) (mY : Int) = true
          unfold sizeB
          refine decide_eq_true (.inr ⟨by omega, by omega, by omega, by omega, ?_⟩)
          rw [← Int.natCast_mul]; omega
        · simp only
          have h1 := HM0.out.1.1
          rw [Int.mul_assoc, ← Int.natCast_mul, h1]; omega
      have kWB : Kept (fun _ => False) W B := HM2.out.1.then kMB
      have hmeat : MEAt B.heap.size B ME1 := by
        rw [HME.out]
        exact ⟨HM0.out.1.up kWB, fun b off h0 he => by have h1 := HM0.out.2.2.2.1 b off h0 he; have h2 := kWB.size; omega, HM0.out.2.2.1, HM0.out.2.1, by unfold I64; simp only; omega, by unfold I64; simp only; omega, by unfold I64; simp only; omega, HM0.out.2.2.2.2.1⟩
      have hmap : MapAt B.heap.size B (some r) [ME1] := by
        have hb := kMB.blk HM2.out.2.2.2 id
        exact .inr ⟨r, #[ME1.entry], 1, rfl, lt_of_blk hb, hb, rfl, ⟨fun x hx => by simp at hx; rw [hx, HME.out]; simp [ME.entry], by simp, by simp⟩, fun m hm => by rw [List.mem_singleton.1 hm]; exact hmeat⟩
      have hplc : PzsAt B.heap.size B (some ⟨q, 0, none⟩) 1 [PZ] := by
        refine ⟨rfl, .inr ⟨q, 0, rfl, lt_of_blk bqB, fun j p hj f hf => ?_⟩⟩
        have hj0 : j = 0 := by have := (List.getElem?_eq_some_iff.1 hj).1; simp at this; exact this
        subst hj0
        simp at hj
        subst hj
        rw [HPZ0.out]
        simp only [Nat.zero_mul, Nat.zero_add]
        rw [blk_cell bqB]
        unfold Pz.vs
        simp
      obtain ⟨LL, hLL⟩ : ∃ x, (List.range i).map LS = x := ⟨_, rfl⟩
      have hlinB : LinesAt B.heap.size B ga i LL := by
        obtain ⟨t1, t2, t3, t4, t6⟩ := HT9.out
        have kwr : Kept (fun j => j = M2.heap.size) wr B := (HKR.out.2.2.mono (fun _ _ h => h.elim) : Kept (fun j => j = M2.heap.size) wr WR).then kwB
        have hti : TI M2 M2.heap.size (fun gv => #[.int .i64 i, .int .i64 cN, .int .i64 wN, .int .i64 hN, gv, .slice (some ⟨q, 0, none⟩) 1 1, .map (some r), .int .i64 0, .bool false, .int .i64 0, .int .i64 0]) LS i (.slice ga i gc) B := by
          refine ⟨vs, t1.kept kwr (fun b hb (hS : b = M2.heap.size) => by have := t6 b hb; omega), t2, fun j hj => ?_, bsB, kMB, t6⟩
          obtain ⟨v, hv, ho⟩ := t3 j hj
          refine ⟨v, hv, ho.kept kwr (fun b hb (hS : b = M2.heap.size) => ?_)⟩
          obtain ⟨c, hc⟩ := ownC_blk ho hb
          exact blk_ty hc t4 (by decide) hS
        have h := hti.lines.2
        rw [hLL] at h
        exact h
      have hcellS : ∀ rr cc, rr < i → cc < cN → cellS LL rr cc = ⟨0, 0, ⟨fg, bg, 0⟩⟩ := by
        intro rr cc h1 h2
        rw [← hLL, HLS.out]
        unfold cellS
        simp [h1, h2]
      have hcell0 : ∀ rr cc, (cellS LL rr cc).r = 0 := by
        intro rr cc
        rw [← hLL, HLS.out]
        unfold cellS
        by_cases h1 : rr < i
        · by_cases h2 : cc < cN
          · simp [h1, h2]
          · simp [h1, h2, cl0]
        · simp [h1, cl0]
      obtain ⟨PIC, hPIC⟩ : ∃ x, drawP SC LL (imgsP PW PH NN wN hN 0 [ME1] [PZ]) PW PH NN (List.replicate NN 0) = x := ⟨_, rfl⟩
      have himg : Imgs SC PW PH NN B.heap.size B (imgsP PW PH NN wN hN 0 [ME1] [PZ]) := by
        have h := images_any SC PW PH NN B.heap.size B [ME1] [PZ] hdim (by omega) (by omega) hszP (by rw [hSC]; simp only; omega) (by rw [hSC]; simp only; omega) (by rw [hSC]; exact hplc) (fun p hp => by rw [List.mem_singleton.1 hp]; exact HPZ.out.1) (by rw [hSC]; exact hmap) (fun m hm => by rw [List.mem_singleton.1 hm, HME.out]; exact ⟨hrM, by simp only; omega⟩)
        rw [hSC] at h ⊢
        exact h
      have hdraw := draw_yes SC LL (imgsP PW PH NN wN hN 0 [ME1] [PZ]) B PW PH NN hdim (by rw [hSC]; show 1 ≤ i; omega) (by rw [hSC]; show 1 ≤ cN; omega) (by rw [hSC]; exact hPW.symm) (by rw [hSC]; exact hPH.symm) (fun rr cc => by rw [hcell0]; exact ⟨by decide, by decide⟩) (by rw [hSC]; show i ≤ _; omega) himg (fun a P hP => imgs_bytes (fun m hm => by rw [List.mem_singleton.1 hm, HME.out]; exact HM0.out.2.1) [PZ] P hP) (by rw [hSC]; exact hlinB)
      rw [hPIC] at hdraw
      have hpix : ∀ x y k, x < PW → y < PH → k < 4 → PIC.getD (4 * (y * PW + x) + k) 0 = if (pN * wN ≤ x ∧ x < pN * wN + mX) ∧ (oN * hN ≤ y ∧ y < oN * hN + mY) then (if k = 3 then 255 else ov (bakB ⟨0, 0, ⟨fg, bg, 0⟩⟩ k) (mp.getD (4 * ((y - oN * hN) * mX + (x - pN * wN)) + k) 0) (mp.getD (4 * ((y - oN * hN) * mX + (x - pN * wN)) + 3) 0)) else bakB ⟨0, 0, ⟨fg, bg, 0⟩⟩ k := fun x y k hx hy hk => by
        have hXl : pN * wN < PW := by rw [← hPW]; exact Nat.mul_lt_mul_of_pos_right (by omega) (by omega)
        have hYl : oN * hN < PH := by rw [← hPH]; exact Nat.mul_lt_mul_of_pos_right (by omega) (by omega)
        have h := img_pix (s := SC) (ls := LL) (W := PW) (H := PH) (n := NN) (mx := mX) (my := mY) (X := pN * wN) (Y := oN * hN) (x := x) (y := y) (k := k) (bg := ⟨fg, bg, 0⟩) (E := [ME1]) (m := ME1) (p := PZ) (by rw [hSC]; show 0 < wN; omega) (by rw [hSC]; show 0 < hN; omega) (by rw [hSC]; exact hPW.symm) (by rw [hSC]; exact hPH.symm) hNN.symm (by rw [hSC]; exact hcellS) hcell0 (by rw [hSC]) (by rw [HPZ0.out, HME.out]; rfl) (by rw [HME.out]) (by rw [HME.out]) (by rw [hSC]; exact HPZ.out.2) (by
          rw [HPZ0.out, HME.out]
          exact cutM_all mX mY mp (by omega) (by omega) (by have := HM0.out.1.1; omega)) (by omega) (by omega) hXl hYl hx hy hk (List.replicate NN 0)
        rw [hSC] at h hPIC
        rw [hPIC, HME.out] at h
        exact h
      rw [hSC] at hdraw
      unfold Sc.val mat at hdraw
      have HDR := Lib.hid hdraw
      have HPX := Lib.hid hpix
      obtain ⟨B0, hB0⟩ : ∃ x, bakB ⟨0, 0, ⟨fg, bg, 0⟩⟩ 0 = x := ⟨_, rfl⟩
      obtain ⟨B1, hB1⟩ : ∃ x, bakB ⟨0, 0, ⟨fg, bg, 0⟩⟩ 1 = x := ⟨_, rfl⟩
      obtain ⟨B2, hB2⟩ : ∃ x, bakB ⟨0, 0, ⟨fg, bg, 0⟩⟩ 2 = x := ⟨_, rfl⟩
      have hB3 : bakB ⟨0, 0, ⟨fg, bg, 0⟩⟩ 3 = 255 := rfl
      have hcb := (colors_isB ⟨fg, bg, 0⟩).2
      have HBB := Lib.hid (show (0 ≤ B0 ∧ B0 < 256) ∧ (0 ≤ B1 ∧ B1 < 256) ∧ (0 ≤ B2 ∧ B2 < 256) from by
        rw [← hB0, ← hB1, ← hB2]
        exact hcb)
      have HBK := Lib.hid (And.intro hB0 (And.intro hB1 hB2))
      have HSZP := Lib.hid (And.intro hszP hrM)
      have HPWH := Lib.hid (And.intro hPW (And.intro hPH (And.intro hNN (And.intro hPWb (And.intro hPHb (And.intro hPW1 hPH1))))))
      have HWB := Lib.hid (And.intro kWB (And.intro (kMB.blk HM2.out.2.1 id) (kMB.blk HM2.out.2.2.1 id)))
      have p1 : (cN : Int) * (wN : Int) = (PW : Int) := by rw [← hPW]; simp
      have p2 : (i : Int) * (hN : Int) = (PH : Int) := by rw [← hPH]; simp
      have p3 : IntKind.i64.wrap (PW : Int) = (PW : Int) := IntWalk.i64_in _ (by omega)
      have p4 : IntKind.i64.wrap (PH : Int) = (PH : Int) := IntWalk.i64_in _ (by omega)
      have HGL := Lib.hid (fun (w : World) => show Calls Try.prog 18 #[.int .i32 0, .int .i64 1, .int .i64 1, .agg #[.int .i64 fg, .int .i64 bg, .int .i64 0]] w fun e w' => ∃ g : Nat, e = .returned (.tuple #[.agg #[.int .i64 1, .int .i64 1, .slice (some ⟨g, 0, none⟩) 4 4], .int .i64 0]) ∧ w.heap.size ≤ g ∧ Own .u8 5 w' (.slice (some ⟨g, 0, none⟩) 4 4) (glyP 1 1 0 ⟨fg, bg, 0⟩) ∧ Kept (fun _ => False) w w' from glyph_yes 0 1 1 ⟨fg, bg, 0⟩ w (by decide) (by decide) (by decide))
      clear hzr v1 v2 u1 u2 u3 u4 u5 u6 u7 z1 z2 z3 z4 z5 z6 hω hk10 kA bA bsA kB bsB sq bqB kMB kwB hok hPW hPH hPWb hPHb hWHb hPW1 hPH1 hNN hPWH hSC hdim hszP hMM hrM kWB hmeat hmap hplc hLL hlinB hcellS hcell0 hPIC himg hdraw hpix hB0 hB1 hB2 hB3 hcb X0 X1
      go_wp2_with fail
      refine HDR.out.mono ?_
      rintro e w11 ⟨g, rfl, hg, ho, hk⟩
      clear hq
      obtain ⟨Z1, hZ1⟩ : ∃ X, w11.alloc (.cells #[.int .i64 PW, .int .i64 PH, .slice (some ⟨g, 0, none⟩) NN NN] 31) = X := ⟨_, rfl⟩
      have kZ1 : Kept (fun _ => False) w11 Z1 := by rw [← hZ1]; exact (Kept.refl _ _).alloc _
      have bZ1 : Z1.heap[w11.heap.size]? = some (.cells #[.int .i64 PW, .int .i64 PH, .slice (some ⟨g, 0, none⟩) NN NN] 31 (0, 0)) := by rw [← hZ1]; exact blk_new _ _
      obtain ⟨⟨a0, -⟩, ⟨a1, -⟩, a2, -⟩ := blk3 bZ1
      have kBZ := hk.then kZ1
      obtain ⟨⟨l0, -⟩, ⟨l1, -⟩, l2, -⟩ := blk3 (kBZ.blk HWB.out.2.2 id)
      have HZ1 := Lib.hid (And.intro kBZ (And.intro bZ1 (ho.kept kZ1 (fun _ _ => id))))
      clear hg ho hk kZ1 bZ1 kBZ
      go_wp2_with fail
      refine (HGL.out _).mono ?_
      rintro e w12 ⟨g2, rfl, hg2, ho2, hk2⟩
      obtain ⟨Z2, hZ2⟩ : ∃ X, w12.alloc (.cells #[.int .i64 1, .int .i64 1, .slice (some ⟨g2, 0, none⟩) 4 4] 31) = X := ⟨_, rfl⟩
      have kZ2 : Kept (fun _ => False) w12 Z2 := by rw [← hZ2]; exact (Kept.refl _ _).alloc _
      have bZ2 : Z2.heap[w12.heap.size]? = some (.cells #[.int .i64 1, .int .i64 1, .slice (some ⟨g2, 0, none⟩) 4 4] 31 (0, 0)) := by rw [← hZ2]; exact blk_new _ _
      obtain ⟨⟨e0, -⟩, ⟨e1, -⟩, e2, -⟩ := blk3 bZ2
      have HAB := Lib.hid (show Calls Try.prog 26 #[.agg #[.int .i64 1, .int .i64 1, .slice (some ⟨g2, 0, none⟩) 4 4], .int .i64 0, .int .i64 0] Z2 fun e w' => e = .returned (.tuple #[.agg #[.int .u8 B0, .int .u8 B1, .int .u8 B2, .int .u8 255], .bool true]) ∧ Kept (fun _ => False) Z2 w' from by
        have hl : (glyP 1 1 0 ⟨fg, bg, 0⟩).length = 4 := boxS_len (fun x y bw bh c P => layL_len ..) _ _ _ _ (layL_len ..)
        have hsl := (ho2.kept kZ2 (fun _ _ => id)).slAt
        have h := atc_yes 1 1 0 0 (glyP 1 1 0 ⟨fg, bg, 0⟩) (some ⟨g2, 0, none⟩) 4 4 Z2 (by unfold rightM; rw [hl]; rfl) (by omega) (by omega) hsl (Nat.le_refl _) (by omega)
        unfold pixV at h
        simp only [Nat.zero_mul, Nat.mul_zero, Nat.zero_add] at h
        rw [gly_back rfl (by omega), gly_back rfl (by omega), gly_back rfl (by omega), gly_back rfl (by omega), HBK.out.1, HBK.out.2.1, HBK.out.2.2] at h
        exact h)
      have HZ2 := Lib.hid (hk2.then kZ2)
      clear hg2 ho2 hk2 kZ2 bZ2
      go_wp2_with fail
      refine HAB.out.mono ?_
      rintro e w13 ⟨rfl, hk3⟩
      obtain ⟨Z3, hZ3⟩ : ∃ X, w13.alloc (.cells #[.int .u8 B0, .int .u8 B1, .int .u8 B2, .int .u8 255] 66) = X := ⟨_, rfl⟩
      have kZ3 : Kept (fun _ => False) w13 Z3 := by rw [← hZ3]; exact (Kept.refl _ _).alloc _
      have bZ3 : Z3.heap[w13.heap.size]? = some (.cells #[.int .u8 B0, .int .u8 B1, .int .u8 B2, .int .u8 255] 66 (0, 0)) := by rw [← hZ3]; exact blk_new _ _
      have k13 := HZ2.out.then (hk3.then kZ3)
      have HZ3 := Lib.hid (And.intro (HWB.out.1.then (HZ1.out.1.then k13)) (And.intro (k13.blk HZ1.out.2.1 id) (And.intro bZ3 (And.intro (HZ1.out.2.2.kept k13 (fun _ _ => id)) ((HZ1.out.1.then k13).blk HWB.out.2.1 id)))))
      obtain ⟨⟨a0, -⟩, ⟨a1, -⟩, a2, -⟩ := blk3 HZ3.out.2.1
      clear hk3 kZ3 bZ3 k13
      obtain ⟨XX, hXX⟩ : ∃ x, pN * wN = x := ⟨_, rfl⟩
      obtain ⟨YY, hYY⟩ : ∃ x, oN * hN = x := ⟨_, rfl⟩
      rw [hXX, hYY] at HPX
      have hpw := HPWH.out
      have hok := HOK.out
      have hXXb : XX ≤ 10 * 6 := by rw [← hXX]; exact Nat.mul_le_mul (by omega) (by omega)
      have hYYb : YY ≤ 10 * 6 := by rw [← hYY]; exact Nat.mul_le_mul (by omega) (by omega)
      have m1 : (pN : Int) * (wN : Int) = (XX : Int) := by rw [← hXX]; simp
      have m2 : (oN : Int) * (hN : Int) = (YY : Int) := by rw [← hYY]; simp
      have m3 : IntKind.i64.wrap (XX : Int) = (XX : Int) := IntWalk.i64_in _ (by omega)
      have m4 : IntKind.i64.wrap (YY : Int) = (YY : Int) := IntWalk.i64_in _ (by omega)
      have HNB := Lib.hid (show PW ≤ 60 ∧ PH ≤ 60 ∧ XX ≤ 60 ∧ YY ≤ 60 ∧ mX ≤ 40 ∧ mY ≤ 40 ∧ 1 ≤ mX ∧ 1 ≤ mY by omega)
      clear hpw hok hXX hYY hXXb hYYb
      go_wp2
      clear a0 a1 a2
      go_loopg [27, 28, 29, 30, 31, 32, 33] PH (fun gg yv _ _ _ _ _ _ wr => ∃ y : Nat, PH ≤ gg + y ∧ y ≤ PH ∧ yv = .int .i64 (y : Int) ∧ Kept (fun _ => False) Z3 wr)
      case atStart => exact ⟨0, by omega, by omega, rfl, Kept.refl _ _⟩
      case round =>
        obtain ⟨y, hgg, hyP, rfl, hk⟩ := hrel
        obtain ⟨⟨a0, -⟩, ⟨a1, -⟩, a2, -⟩ := blk3 (hk.blk HZ3.out.2.1 id)
        by_cases hy1 : y < PH
        · have gy : decide (y < PH) = true := decide_eq_true hy1
          have gy' : decide ((y : Int) < (PH : Int)) = true := decide_eq_true (by omega)
          have wy : IntKind.i64.wrap ((y : Int) + 1) = (y : Int) + 1 := IntWalk.i64_in _ (by have := HNB.out; omega)
          have HKy := Lib.hid hk
          obtain ⟨gko, hgo⟩ : ∃ x, x = gk := ⟨_, rfl⟩
          subst hgo
          clear hk
          go_wp2
          go_loopg [28, 29, 30, 31, 32, 33] PW (fun gg xv _ _ _ _ _ wr => ∃ x : Nat, PW ≤ gg + x ∧ x ≤ PW ∧ xv = .int .i64 (x : Int) ∧ Kept (fun _ => False) Z3 wr)
          case atStart => exact ⟨0, by omega, by omega, rfl, HKy.out⟩
          case round =>
            obtain ⟨x, hgx, hxP, rfl, hk⟩ := hrel
            obtain ⟨⟨a0, -⟩, ⟨a1, -⟩, a2, -⟩ := blk3 (hk.blk HZ3.out.2.1 id)
            by_cases hx1 : x < PW
            · have gx : decide (x < PW) = true := decide_eq_true hx1
              have gx' : decide ((x : Int) < (PW : Int)) = true := decide_eq_true (by omega)
              have hnb := HNB.out
              have wx : IntKind.i64.wrap ((x : Int) + 1) = (x : Int) + 1 := IntWalk.i64_in _ (by omega)
              have w1x : IntKind.i64.wrap ((x : Int) - (XX : Int)) = (x : Int) - (XX : Int) := IntWalk.i64_in _ (by omega)
              have w1y : IntKind.i64.wrap ((y : Int) - (YY : Int)) = (y : Int) - (YY : Int) := IntWalk.i64_in _ (by omega)
              obtain ⟨P0, hP0⟩ : ∃ v, PIC.getD (4 * (y * PW + x)) 0 = v := ⟨_, rfl⟩
              obtain ⟨P1, hP1⟩ : ∃ v, PIC.getD (4 * (y * PW + x) + 1) 0 = v := ⟨_, rfl⟩
              obtain ⟨P2, hP2⟩ : ∃ v, PIC.getD (4 * (y * PW + x) + 2) 0 = v := ⟨_, rfl⟩
              obtain ⟨P3, hP3⟩ : ∃ v, PIC.getD (4 * (y * PW + x) + 3) 0 = v := ⟨_, rfl⟩
              have HAP := Lib.hid (show Calls Try.prog 26 #[.agg #[.int .i64 PW, .int .i64 PH, .slice (some ⟨g, 0, none⟩) NN NN], .int .i64 x, .int .i64 y] wr fun e w' => e = .returned (.tuple #[.agg #[.int .u8 P0, .int .u8 P1, .int .u8 P2, .int .u8 P3], .bool true]) ∧ Kept (fun _ => False) wr w' from by
                have ho := HZ3.out.2.2.2.1.kept hk (fun _ _ => id)
                have hl : PIC.length = NN := by obtain ⟨_, _, hv, -, -⟩ := ho.shape; cases hv; rfl
                have hpw := HPWH.out
                have hNN2 : PW * PH ≤ 60 * 60 := Nat.mul_le_mul (by omega) (by omega)
                have h := atc_yes PW PH x y PIC (some ⟨g, 0, none⟩) NN NN wr (by
                  unfold rightM
                  rw [Bool.and_eq_true]
                  refine ⟨HSZP.out.1, decide_eq_true ?_⟩
                  simp only
                  rw [hl, ← hpw.2.2.1]; simp [Int.mul_assoc]) hx1 hy1 ho.slAt (Nat.le_refl _) (by omega)
                unfold pixV at h
                rw [hP0, hP1, hP2, hP3] at h
                exact h)
              have q0 := HPX.out x y 0 hx1 hy1 (by omega)
              have q1' := HPX.out x y 1 hx1 hy1 (by omega)
              have q2 := HPX.out x y 2 hx1 hy1 (by omega)
              have q3 := HPX.out x y 3 hx1 hy1 (by omega)
              rw [Nat.add_zero, hP0] at q0
              rw [hP1] at q1'
              rw [hP2] at q2
              rw [hP3] at q3
              rw [HBK.out.1] at q0
              rw [HBK.out.2.1] at q1'
              rw [HBK.out.2.2] at q2
              have HK := Lib.hid hk
              clear hP0 hP1 hP2 hP3 hk hnb
              by_cases hI : (XX ≤ x ∧ x < XX + mX) ∧ (YY ≤ y ∧ y < YY + mY)
              · rw [if_pos hI] at q0 q1' q2 q3
                obtain ⟨QQ, hQQ⟩ : ∃ v, (y - YY) * mX + (x - XX) = v := ⟨_, rfl⟩
                rw [hQQ] at q0 q1' q2 q3
                obtain ⟨s0, hs0⟩ : ∃ v, mp.getD (4 * QQ) 0 = v := ⟨_, rfl⟩
                obtain ⟨s1, hs1⟩ : ∃ v, mp.getD (4 * QQ + 1) 0 = v := ⟨_, rfl⟩
                obtain ⟨s2, hs2⟩ : ∃ v, mp.getD (4 * QQ + 2) 0 = v := ⟨_, rfl⟩
                obtain ⟨s3, hs3⟩ : ∃ v, mp.getD (4 * QQ + 3) 0 = v := ⟨_, rfl⟩
                rw [if_neg (by omega), Nat.add_zero, hs0, hs3] at q0
                rw [if_neg (by omega), hs1, hs3] at q1'
                rw [if_neg (by omega), hs2, hs3] at q2
                rw [if_pos rfl] at q3
                have b0 := getD_byte HM0.out.2.1 (4 * QQ)
                have b1 := getD_byte HM0.out.2.1 (4 * QQ + 1)
                have b2 := getD_byte HM0.out.2.1 (4 * QQ + 2)
                have b3 := getD_byte HM0.out.2.1 (4 * QQ + 3)
                rw [hs0] at b0; rw [hs1] at b1; rw [hs2] at b2; rw [hs3] at b3
                have hbb := HBB.out
                have HOV := Lib.hid (fun (w : World) => show Calls Try.prog 27 #[.agg #[.int .u8 B0, .int .u8 B1, .int .u8 B2, .int .u8 255], .agg #[.int .u8 s0, .int .u8 s1, .int .u8 s2, .int .u8 s3]] w fun e w' => e = .returned (.agg #[.int .u8 (ov B0 s0 s3), .int .u8 (ov B1 s1 s3), .int .u8 (ov B2 s2 s3), .int .u8 255]) ∧ Kept (fun _ => False) w w' from over_any B0 B1 B2 255 s0 s1 s2 s3 w (by omega) (by omega) (by omega) (by omega) (by omega) (by omega) (by omega))
                obtain ⟨xd, hxd⟩ : ∃ k : Nat, (x : Int) - (XX : Int) = (k : Int) := ⟨x - XX, by omega⟩
                obtain ⟨yd, hyd⟩ : ∃ k : Nat, (y : Int) - (YY : Int) = (k : Int) := ⟨y - YY, by omega⟩
                have HAM := Lib.hid (fun (w : World) (hs : SlAt .u8 w a n mp) => show Calls Try.prog 26 #[.agg #[.int .i64 mX, .int .i64 mY, .slice a n cap], .int .i64 ((x : Int) - (XX : Int)), .int .i64 ((y : Int) - (YY : Int))] w fun e w' => e = .returned (.tuple #[.agg #[.int .u8 s0, .int .u8 s1, .int .u8 s2, .int .u8 s3], .bool true]) ∧ Kept (fun _ => False) w w' from by
                  rw [hxd, hyd]
                  have h := atc_yes mX mY xd yd mp a n cap w HSZP.out.2 (by omega) (by omega) hs HM0.out.2.2.1.1 HM0.out.2.2.1.2
                  rw [show yd * mX + xd = QQ by rw [← hQQ, show yd = y - YY by omega, show xd = x - XX by omega]] at h
                  unfold pixV at h
                  rw [hs0, hs1, hs2, hs3] at h
                  exact h)
                subst q0 q1' q2 q3
                obtain ⟨T0, hT0⟩ : ∃ v, ov B0 s0 s3 = v := ⟨_, rfl⟩
                obtain ⟨T1, hT1⟩ : ∃ v, ov B1 s1 s3 = v := ⟨_, rfl⟩
                obtain ⟨T2, hT2⟩ : ∃ v, ov B2 s2 s3 = v := ⟨_, rfl⟩
                rw [hT0, hT1, hT2] at HOV HAP
                have hne : ∀ w, (binOp .neq 66 (.agg #[.int .u8 T0, .int .u8 T1, .int .u8 T2, .int .u8 255]) (.agg #[.int .u8 T0, .int .u8 T1, .int .u8 T2, .int .u8 255])).run Try.prog w = .ok (.bool false) w := fun w => by rw [run_neCol 66 Try.underlying66]; simp
                clear hI hQQ hs0 hs1 hs2 hs3 b0 b1 b2 b3 hbb hxd hyd hT0 hT1 hT2
                go_wp2_with fail
                refine HAP.out.mono ?_
                rintro e w20 ⟨rfl, hk20⟩
                obtain ⟨Y1, hY1⟩ : ∃ X, w20.alloc (.cells #[.int .u8 T0, .int .u8 T1, .int .u8 T2, .int .u8 255] 66) = X := ⟨_, rfl⟩
                have kY1 : Kept (fun _ => False) w20 Y1 := by rw [← hY1]; exact (Kept.refl _ _).alloc _
                have bY1 : Y1.heap[w20.heap.size]? = some (.cells #[.int .u8 T0, .int .u8 T1, .int .u8 T2, .int .u8 255] 66 (0, 0)) := by rw [← hY1]; exact blk_new _ _
                obtain ⟨⟨c0, -⟩, ⟨c1, -⟩, ⟨c2, -⟩, c3, -⟩ := blk4 ((HK.out.then (hk20.then kY1)).blk HZ3.out.2.2.1 id)
                obtain ⟨Y2, hY2⟩ : ∃ X, Y1.alloc (.cells #[.int .u8 B0, .int .u8 B1, .int .u8 B2, .int .u8 255] 66) = X := ⟨_, rfl⟩
                have kY2 : Kept (fun _ => False) Y1 Y2 := by rw [← hY2]; exact (Kept.refl _ _).alloc _
                have bY2 : Y2.heap[Y1.heap.size]? = some (.cells #[.int .u8 B0, .int .u8 B1, .int .u8 B2, .int .u8 255] 66 (0, 0)) := by rw [← hY2]; exact blk_new _ _
                have kk2 := HK.out.then (hk20.then (kY1.then kY2))
                obtain ⟨⟨d0, -⟩, ⟨d1, -⟩, d2, -⟩ := blk3 (kk2.blk HZ3.out.2.2.2.2 id)
                have HY2 := Lib.hid (And.intro kk2 (And.intro (kY2.blk bY1 id) (And.intro bY2 (lt_of_blk bY1))))
                have HS20 := Lib.hid (show Z3.heap.size ≤ Y1.heap.size from by have h1 := HK.out.size; have h2 := hk20.size; have h3 := kY1.size; omega)
                clear hk20 kY1 bY1 kY2 bY2 kk2
                go_wp2_with fail
                refine (HAM.out _ (HM0.out.1.up (HZ3.out.1.then HY2.out.1))).mono ?_
                rintro e w21 ⟨rfl, hk21⟩
                obtain ⟨Y3, hY3⟩ : ∃ X, w21.alloc (.cells #[.int .u8 s0, .int .u8 s1, .int .u8 s2, .int .u8 s3] 66) = X := ⟨_, rfl⟩
                have kY3 : Kept (fun _ => False) w21 Y3 := by rw [← hY3]; exact (Kept.refl _ _).alloc _
                have bY3 : Y3.heap[w21.heap.size]? = some (.cells #[.int .u8 s0, .int .u8 s1, .int .u8 s2, .int .u8 s3] 66 (0, 0)) := by rw [← hY3]; exact blk_new _ _
                have k23 := hk21.then kY3
                obtain ⟨⟨f0, -⟩, ⟨f1, -⟩, ⟨f2, -⟩, f3, -⟩ := blk4 bY3
                obtain ⟨⟨c0, -⟩, ⟨c1, -⟩, ⟨c2, -⟩, c3, -⟩ := blk4 ((HY2.out.1.then k23).blk HZ3.out.2.2.1 id)
                have HY3 := Lib.hid (And.intro (HY2.out.1.then k23) (And.intro (k23.blk HY2.out.2.1 id) (k23.blk HY2.out.2.2.1 id)))
                clear hk21 kY3 bY3 k23 d0 d1 d2
                go_wp2_with fail
                refine (HOV.out _).mono ?_
                rintro e w22 ⟨rfl, hk22⟩
                obtain ⟨U1, U2, U3, U4, r1, r2, r3, r4, ⟨y0, y0'⟩, ⟨y1, y1'⟩, ⟨y2, y2'⟩, ⟨y3, y3'⟩, bU, kU⟩ := store4 (hk22.blk HY3.out.2.2 id) (.int .u8 T0) (.int .u8 T1) (.int .u8 T2) (.int .u8 255)
                obtain ⟨⟨h0, -⟩, ⟨h1, -⟩, ⟨h2, -⟩, h3, -⟩ := blk4 bU
                obtain ⟨⟨c0, -⟩, ⟨c1, -⟩, ⟨c2, -⟩, c3, -⟩ := blk4 (kU.blk (hk22.blk HY3.out.2.1 id) (fun (h : w20.heap.size = Y1.heap.size) => by have := HY2.out.2.2.2; omega))
                have hz3 := lt_of_blk HZ3.out.2.2.1
                have HE := Lib.hid ((HY3.out.1.then hk22).trans (kU.mono fun j _ hj => Or.inr (by have h9 : j = Y1.heap.size := hj; have := HS20.out; omega)))
                clear hk22 bU kU hz3 f0 f1 f2 f3
                go_wp2
                go_roundg (gk - 1)
                case rel => exact ⟨x + 1, by omega, by omega, by go_num, HE.out⟩
                case measure => omega
              · rw [if_neg hI] at q0 q1' q2 q3
                have q3' : P3 = 255 := q3
                rw [q0, q1', q2, q3'] at HAP
                clear q0 q1' q2 q3 q3'
                have HAM := Lib.hid (fun (w : World) => show Calls Try.prog 26 #[.agg #[.int .i64 mX, .int .i64 mY, .slice a n cap], .int .i64 ((x : Int) - (XX : Int)), .int .i64 ((y : Int) - (YY : Int))] w fun e w' => e = .returned (.tuple #[.agg #[.int .u8 0, .int .u8 0, .int .u8 0, .int .u8 0], .bool false]) ∧ Kept (fun _ => False) w w' from by
                  have hr := HSZP.out.2
                  unfold rightM at hr
                  rw [Bool.and_eq_true] at hr
                  refine atc_no mX mY _ _ a n cap w ?_ hr.1 (decide_eq_false ?_)
                  · have h1 := of_decide_eq_true hr.2
                    simp only at h1
                    rw [← h1, HM0.out.1.1]
                  · intro h
                    exact hI ⟨⟨by omega, by omega⟩, ⟨by omega, by omega⟩⟩)
                have hne : ∀ w, (binOp .neq 66 (.agg #[.int .u8 B0, .int .u8 B1, .int .u8 B2, .int .u8 255]) (.agg #[.int .u8 B0, .int .u8 B1, .int .u8 B2, .int .u8 255])).run Try.prog w = .ok (.bool false) w := fun w => by rw [run_neCol 66 Try.underlying66]; simp
                clear hI
                go_wp2_with fail
                refine HAP.out.mono ?_
                rintro e w20 ⟨rfl, hk20⟩
                obtain ⟨Y1, hY1⟩ : ∃ X, w20.alloc (.cells #[.int .u8 B0, .int .u8 B1, .int .u8 B2, .int .u8 255] 66) = X := ⟨_, rfl⟩
                have kY1 : Kept (fun _ => False) w20 Y1 := by rw [← hY1]; exact (Kept.refl _ _).alloc _
                have bY1 : Y1.heap[w20.heap.size]? = some (.cells #[.int .u8 B0, .int .u8 B1, .int .u8 B2, .int .u8 255] 66 (0, 0)) := by rw [← hY1]; exact blk_new _ _
                obtain ⟨⟨c0, -⟩, ⟨c1, -⟩, ⟨c2, -⟩, c3, -⟩ := blk4 ((HK.out.then (hk20.then kY1)).blk HZ3.out.2.2.1 id)
                obtain ⟨Y2, hY2⟩ : ∃ X, Y1.alloc (.cells #[.int .u8 B0, .int .u8 B1, .int .u8 B2, .int .u8 255] 66) = X := ⟨_, rfl⟩
                have kY2 : Kept (fun _ => False) Y1 Y2 := by rw [← hY2]; exact (Kept.refl _ _).alloc _
                have bY2 : Y2.heap[Y1.heap.size]? = some (.cells #[.int .u8 B0, .int .u8 B1, .int .u8 B2, .int .u8 255] 66 (0, 0)) := by rw [← hY2]; exact blk_new _ _
                have kk2 := HK.out.then (hk20.then (kY1.then kY2))
                obtain ⟨⟨d0, -⟩, ⟨d1, -⟩, d2, -⟩ := blk3 (kk2.blk HZ3.out.2.2.2.2 id)
                have HY2 := Lib.hid (And.intro kk2 (And.intro (kY2.blk bY1 id) bY2))
                clear hk20 kY1 bY1 kY2 bY2 kk2
                go_wp2_with fail
                refine (HAM.out _).mono ?_
                rintro e w21 ⟨rfl, hk21⟩
                obtain ⟨Y3, hY3⟩ : ∃ X, w21.alloc (.cells #[.int .u8 0, .int .u8 0, .int .u8 0, .int .u8 0] 66) = X := ⟨_, rfl⟩
                have kY3 : Kept (fun _ => False) w21 Y3 := by rw [← hY3]; exact (Kept.refl _ _).alloc _
                have bY3 : Y3.heap[w21.heap.size]? = some (.cells #[.int .u8 0, .int .u8 0, .int .u8 0, .int .u8 0] 66 (0, 0)) := by rw [← hY3]; exact blk_new _ _
                obtain ⟨U1, U2, U3, U4, r1, r2, r3, r4, ⟨y0, y0'⟩, ⟨y1, y1'⟩, ⟨y2, y2'⟩, ⟨y3, y3'⟩, bU, kU⟩ := store4 bY3 (.int .u8 0) (.int .u8 0) (.int .u8 0) (.int .u8 0)
                have hsz2 := HY2.out.1.size
                have hsz3 := hk21.size
                have k2U : Kept (fun _ => False) Y2 U4 := (hk21.then kY3).trans (kU.mono fun j _ hj => Or.inr (by have h9 : j = w21.heap.size := hj; omega))
                obtain ⟨⟨h0, -⟩, ⟨h1, -⟩, ⟨h2, -⟩, h3, -⟩ := blk4 (k2U.blk HY2.out.2.2 id)
                obtain ⟨⟨c0, -⟩, ⟨c1, -⟩, ⟨c2, -⟩, c3, -⟩ := blk4 (k2U.blk HY2.out.2.1 id)
                have HE := Lib.hid (HY2.out.1.then k2U)
                clear hk21 kY3 bY3 kU bU k2U hsz2 hsz3 d0 d1 d2
                go_wp2
                go_roundg (gk - 1)
                case rel => exact ⟨x + 1, by omega, by omega, by go_num, HE.out⟩
                case measure => omega
            · have gx : decide (x < PW) = false := decide_eq_false hx1
              have gx' : decide ((x : Int) < (PW : Int)) = false := decide_eq_false (by omega)
              have HK := Lib.hid hk
              clear hk
              go_wp2
              go_roundg (gko - 1)
              case rel => exact ⟨y + 1, by omega, by omega, by go_num, HK.out⟩
              case measure => omega
        · have gy : decide (y < PH) = false := decide_eq_false hy1
          have gy' : decide ((y : Int) < (PH : Int)) = false := decide_eq_false (by omega)
          have HE := Lib.hid (HZ3.out.1.then hk)
          clear hk
          go_wp2
          exact bodyPost_ret (v := .bool true) (by simp [results, Try.results7, go_sem]) rfl ⟨rfl, HE.out.below⟩
theorem law_img {rows cols cw ch mx my : Int} {a : Option Addr} {n cap : Nat} {zs : List Int} {row col : Int} {l : Look} {z : Int} {W : World} (f4 : (Lit.int .i64 mx).wf = true ∧ (Lit.int .i64 my).wf = true ∧ IsRow .u8 W a n cap zs) (f8 : (Lit.int .i64 z).wf = true) :
    Calls Try.prog 7 #[.int .i64 rows, .int .i64 cols, .int .i64 cw, .int .i64 ch, .agg #[.int .i64 mx, .int .i64 my, .slice a n cap], .int .i64 row, .int .i64 col, .agg #[.int .i64 l.fg, .int .i64 l.bg, .int .i64 l.fl], .int .i64 z] W fun e w' => e = .returned (.bool true) ∧ Below W.heap.size W w' := by
  obtain ⟨h1, h2, h3, h4, h5, h6⟩ := f4.2.2.slAt
  by_cases e1 : rows < 1 ∨ cols < 1 ∨ 10 < rows ∨ 10 < cols ∨ cw < 1 ∨ ch < 1
  · exact img_early1 rows cols cw ch mx my a n cap row col l.fg l.bg l.fl z W  e1
  by_cases e2 : 6 < cw ∨ 6 < ch ∨ row < 0 ∨ rows ≤ row ∨ col < 0 ∨ cols ≤ col
  · exact img_early2 rows cols cw ch mx my a n cap row col l.fg l.bg l.fl z W (by omega) (by omega) (by omega) (by omega) (by omega) (by omega) e2
  by_cases e3 : mx < 1 ∨ my < 1 ∨ 40 < mx ∨ 40 < my ∨ (n : Int) ≠ 4 * mx * my
  · exact img_early3 rows cols cw ch mx my a n cap row col l.fg l.bg l.fl z W (by omega) (by omega) (by omega) (by omega) (by omega) (by omega) (by omega) (by omega) (by omega) (by omega) (by omega) (by omega) e3
  have k0 : (1 ≤ rows ∧ rows ≤ 10) ∧ (1 ≤ cols ∧ cols ≤ 10) ∧ (1 ≤ cw ∧ cw ≤ 6) ∧ (1 ≤ ch ∧ ch ≤ 6) ∧ (0 ≤ row ∧ row < rows) ∧ (0 ≤ col ∧ col < cols) ∧ (1 ≤ mx ∧ mx ≤ 40) ∧ (1 ≤ my ∧ my ≤ 40) := by omega
  have k8 : (n : Int) = 4 * mx * my := by
    by_cases h : (n : Int) = 4 * mx * my
    · exact h
    · exact absurd (by simp [h]) e3
  obtain ⟨rN, hrN⟩ : ∃ k : Nat, rows = k := ⟨rows.toNat, by omega⟩
  obtain ⟨cN, hcN⟩ : ∃ k : Nat, cols = k := ⟨cols.toNat, by omega⟩
  obtain ⟨wN, hwN⟩ : ∃ k : Nat, cw = k := ⟨cw.toNat, by omega⟩
  obtain ⟨hN, hhN⟩ : ∃ k : Nat, ch = k := ⟨ch.toNat, by omega⟩
  obtain ⟨mX, hmX⟩ : ∃ k : Nat, mx = k := ⟨mx.toNat, by omega⟩
  obtain ⟨mY, hmY⟩ : ∃ k : Nat, my = k := ⟨my.toNat, by omega⟩
  obtain ⟨oN, hoN⟩ : ∃ k : Nat, row = k := ⟨row.toNat, by omega⟩
  obtain ⟨pN, hpN⟩ : ∃ k : Nat, col = k := ⟨col.toNat, by omega⟩
  subst hrN hcN hwN hhN hmX hmY hoN hpN
  have k8' : n = 4 * (mX * mY) := by rw [Int.mul_assoc, show (mX : Int) * (mY : Int) = ((mX * mY : Nat) : Int) by simp] at k8; omega
  have hz : I64 z := by have h := f8; simp [Lit.wf, IntKind.min, IntKind.max, IntKind.signed, IntKind.bits] at h; unfold I64; omega
  exact img_go rN cN wN hN mX mY a n cap (zs.take n) oN pN l.fg l.bg l.fl z W h1 (fun x hx => by have h := h4 x hx; simp [Lit.wf, IntKind.min, IntKind.max, IntKind.signed, IntKind.bits] at h; omega) ⟨h2, h3⟩ h5 h6 hz (by omega)
end Go.Proofs.Ytdjgmhbfohbenaa
