/- The document's image: a place drawn. -/
import Derived.Test.YtdjgmhbfohbenaaRSc
import Derived.Test.YtdjgmhbfohbenaaRBig
import Derived.Test.YtdjgmhbfohbenaaImgsD
import Derived.Test.YtdjgmhbfohbenaaGrow
namespace Go.Proofs.Ytdjgmhbfohbenaa
open Go.RowKit Go.Sort Pl
set_option linter.unusedVariables false
set_option linter.unusedSimpArgs false
attribute [local go_sem] growOp growUpon sameUpon
/-- What a place makes of a picture, whatever its Z. -/
def imgD (W H n cw ch : Nat) (top : Int) (L : List (Int × ME)) (P : List Int) (p : Pz) : List Int :=
  match lookI L p.im with
  | none => P
  | some m => if (regP cw ch top p).w = 0 then P else if 0 < (cutM m.x.toNat m.y.toNat p.x p.y p.w p.h m.p).1 then
      layG W H (cutM m.x.toNat m.y.toNat p.x p.y p.w p.h m.p).1 (cutM m.x.toNat m.y.toNat p.x p.y p.w p.h m.p).2.1 (regP cw ch top p).w.toNat (regP cw ch top p).h.toNat (regP cw ch top p).x (regP cw ch top p).y P (cutM m.x.toNat m.y.toNat p.x p.y p.w p.h m.p).2.2 n else P
theorem spot_bd {W H FW FH : Nat} {x y : Int} {P : Nat} (h : (spotOf W H FW FH x y).inside P) : (((P % W : Nat) : Int) - x).toNat < FW ∧ (((P / W : Nat) : Int) - y).toNat < FH := by
  unfold Spot.inside spotOf at h
  simp only at h
  obtain ⟨h1, h2, h3, h4⟩ := h
  have bx := partS_bd x FW W (by omega)
  have by' := partS_bd y FH H (by omega)
  have k1 := part_in (at' := x) (n := FW) (side := W) (k := P % W) (by omega) (by omega)
  have k2 := part_in (at' := y) (n := FH) (side := H) (k := P / W) (by omega) (by omega)
  omega
theorem lay_same {W H C D n : Nat} {x y : Int} {P s : List Int} (hC : 1 ≤ C) (hD : 1 ≤ D) : tab n (drawF (spotOf W H C D x y) P s) = layG W H C D C D x y P s n := by
  unfold layG
  refine tab_ext fun j hj => ?_
  unfold drawF paintF
  by_cases hI : (spotOf W H C D x y).inside (j / 4)
  · rw [if_pos hI, if_pos hI]
    unfold layK
    congr 1
    unfold Spot.src srcG spotOf
    simp only
    rw [Nat.mul_div_cancel _ (by omega), Nat.mul_div_cancel _ (by omega)]
  · rw [if_neg hI, if_neg hI]
theorem lay_fit {W H C D FW FH n : Nat} {x y : Int} {P s : List Int} (hF : 1 ≤ FW) : tab n (drawF (spotOf W H FW FH x y) P (tab (4 * (FW * FH)) (fitF FW FH C D s))) = layG W H C D FW FH x y P s n := by
  unfold layG
  refine tab_ext fun j hj => ?_
  unfold drawF paintF
  by_cases hI : (spotOf W H FW FH x y).inside (j / 4)
  · rw [if_pos hI, if_pos hI]
    obtain ⟨b1, b2⟩ := spot_bd hI
    have hQ : (spotOf W H FW FH x y).src (j / 4) = (((j / 4 / W : Nat) : Int) - y).toNat * FW + (((j / 4 % W : Nat) : Int) - x).toNat := rfl
    have hQl := fit_idx b1 b2
    unfold layK overK
    have hg : ∀ k, k < 4 → (tab (4 * (FW * FH)) (fitF FW FH C D s)).getD (4 * (spotOf W H FW FH x y).src (j / 4) + k) 0 = s.getD (4 * srcG W C D FW FH x y (j / 4) + k) 0 := fun k hk => by
      rw [hQ, tab_get (by omega)]
      unfold fitF srcP srcG
      rw [show (4 * ((((j / 4 / W : Nat) : Int) - y).toNat * FW + (((j / 4 % W : Nat) : Int) - x).toNat) + k) / 4 = (((j / 4 / W : Nat) : Int) - y).toNat * FW + (((j / 4 % W : Nat) : Int) - x).toNat by omega, show (4 * ((((j / 4 / W : Nat) : Int) - y).toNat * FW + (((j / 4 % W : Nat) : Int) - x).toNat) + k) % 4 = k by omega]
      obtain ⟨e1, e2⟩ := pos_of (y := (((j / 4 / W : Nat) : Int) - y).toNat) b1
      rw [e1, e2]
    rw [hg _ (Nat.mod_lt _ (by omega)), hg 3 (by omega)]
  · rw [if_neg hI, if_neg hI]
theorem regP_le {cw ch : Nat} {top : Int} {p : Pz} (hp : p.Ok) (hcw : 1 ≤ cw ∧ cw ≤ 64) (hch : 1 ≤ ch ∧ ch ≤ 64) : (regP cw ch top p).w ≤ 4096 ∧ (regP cw ch top p).h ≤ 4096 := by
  have h4 := hp.cols
  have h5 := hp.rows
  have h8 := hp.w
  have h9 := hp.h
  have h10 := hp.dx
  have h11 := hp.dy
  have bA1 : p.cols * (cw : Int) ≤ 64 * 64 := Int.mul_le_mul (by omega) (by omega) (by omega) (by omega)
  have bB1 : p.rows * (ch : Int) ≤ 64 * 64 := Int.mul_le_mul (by omega) (by omega) (by omega) (by omega)
  have hw : regW cw ch p ≤ 4096 := by unfold regW; split <;> omega
  have hh : regH cw ch p ≤ 4096 := by unfold regH; split <;> omega
  unfold regP
  by_cases h : (1 ≤ regW cw ch p ∧ regW cw ch p ≤ 16384) ∧ (1 ≤ regH cw ch p ∧ regH cw ch p ≤ 16384)
  · rw [if_pos h]; exact ⟨hw, hh⟩
  · rw [if_neg h]; exact ⟨by decide, by decide⟩
theorem own_sl {k : IntKind} {e : TypeId} {w : World} {a : Option Addr} {n c : Nat} {xs : List Int} (h : Own k e w (.slice a n c) xs) : SlAt k w a n xs := by
  obtain ⟨a9, c9, hv, hsl, -⟩ := h.shape
  have h1 : xs.length = n := by cases hv; rfl
  cases hv
  exact hsl
theorem own_blk {k : IntKind} {e : TypeId} {w : World} {v : Value} {xs : List Int} (h : Own k e w v xs) {b : Nat} (hb : v.ownBlock = some b) : ∃ c, w.heap[b]? = some (.cells c e (0, 0)) := by
  obtain ⟨h1, h2⟩ := h
  rcases h2 with ⟨rfl, -⟩ | ⟨g, cap, cur, rfl, -, hg, -⟩
  · cases hb
  · cases hb; exact ⟨cur, hg⟩
/-- What the document's image makes. -/
def ImgR (W H n : Nat) (a : Option Addr) (cap : Nat) (R : List Int) (w : World) (e : Ending) (w' : World) : Prop :=
  ∃ a' c', e = .returned (.agg #[.int .i64 W, .int .i64 H, .slice a' n c']) ∧ Own .u8 5 w' (.slice a' n c') R ∧ Kept (fun _ => False) w w' ∧ ((a' = a ∧ c' = cap) ∨ ∀ b, (Value.slice a' n c').ownBlock = some b → w.heap.size ≤ b)
theorem ImgR.mk' {W H n : Nat} {a : Option Addr} {cap : Nat} {R : List Int} {w : World} {w' : World} {a' : Option Addr} {c' : Nat} (h1 : Own .u8 5 w' (.slice a' n c') R) (h2 : Kept (fun _ => False) w w') (h3 : (a' = a ∧ c' = cap) ∨ ∀ b, (Value.slice a' n c').ownBlock = some b → w.heap.size ≤ b) : ImgR W H n a cap R w (.returned (.agg #[.int .i64 W, .int .i64 H, .slice a' n c'])) w' := ⟨a', c', rfl, h1, h2, h3⟩
set_option maxRecDepth 100000 in
set_option maxHeartbeats 8000000 in
theorem rimage_any (s : RSc) (p : Pz) (W H n B : Nat) (P : List Int) (a : Option Addr) (cap : Nat) (L : List (Int × ME)) (w : World) (hcw : 1 ≤ s.cw ∧ s.cw ≤ 64) (hch : 1 ≤ s.ch ∧ s.ch ≤ 64) (htop : 0 ≤ s.top ∧ s.top ≤ 1125899906842624) (hp : p.Ok) (hW : W ≤ 16384) (hH : H ≤ 16384) (hn : n = 4 * (W * H)) (hn2 : n ≤ 16384) (hn0 : 0 < n) (hr1 : rightM ⟨W, H, P⟩ = true)
    (ho : Own .u8 5 w (.slice a n cap) P) (hPb : IsBytes P) (hL : ImsAt B w s.ia s.ik L) (hr : ∀ q ∈ L, rightM q.2.mx = true ∧ q.2.n ≤ 16384) (hik : s.ik ≤ 9223372036854775807) :
    Calls Try.prog 40 #[.agg #[.int .i64 W, .int .i64 H, .slice a n cap], s.val, p.val] w (ImgR W H n a cap (imgD W H n s.cw s.ch s.top L P p) w) := by
  have HREG := Lib.hid (fun (x : World) => rregion_any s p x hcw hch htop hp)
  have hri := regP_i64 hp hcw hch htop
  obtain ⟨rows, cols, cw, ch, la, ln, lc, pa, pn, pc, ia, ik, ic, top, cur, srow, scol⟩ := s
  have hpo := hp
  have HBIG := Lib.hid (show (regP cw ch top p).w ≤ 4096 ∧ (regP cw ch top p).h ≤ 4096 from by
    exact regP_le hpo hcw hch)
  obtain ⟨RES, hRES⟩ : ∃ x, imgD W H n cw ch top L P p = x := ⟨_, rfl⟩
  have HRES := Lib.hid hRES
  simp only at hcw hch htop hL hik HREG hri ⊢
  rw [hRES]
  obtain ⟨⟨rx, ry, rw', rh⟩, hRG⟩ : ∃ r, regP cw ch top p = r := ⟨_, rfl⟩
  rw [hRG] at HREG hri HBIG
  simp only at HREG hri HBIG
  have HRG := Lib.hid hRG
  have HPO := Lib.hid hpo
  have HIDP := Lib.hid (show imgD W H n cw ch top L P p = match lookI L p.im with | none => P | some m => if (regP cw ch top p).w = 0 then P else if 0 < (cutM m.x.toNat m.y.toNat p.x p.y p.w p.h m.p).1 then layG W H (cutM m.x.toNat m.y.toNat p.x p.y p.w p.h m.p).1 (cutM m.x.toNat m.y.toNat p.x p.y p.w p.h m.p).2.1 (regP cw ch top p).w.toNat (regP cw ch top p).h.toNat (regP cw ch top p).x (regP cw ch top p).y P (cutM m.x.toNat m.y.toNat p.x p.y p.w p.h m.p).2.2 n else P from rfl)
  have hll := hL.1
  unfold RSc.val Pz.val at HREG
  unfold RSc.val Pz.val
  simp only at HREG ⊢
  clear hRES hRG hpo hp
  obtain ⟨pim, pid, palt, pline, pcol, prows, pcols, px, py, pw, ph, pdx, pdy, pz⟩ := p
  simp only at HREG HIDP HPO HRG ⊢
  obtain ⟨V, hV⟩ : ∃ V, (((w.alloc (.cells #[.int .i64 W, .int .i64 H, .slice a n cap] 35)).alloc (.cells #[.int .i64 rows, .int .i64 cols, .int .i64 cw, .int .i64 ch, .slice la ln lc, .slice pa pn pc, .slice ia ik ic, .int .i64 top, .bool cur, .int .i64 srow, .int .i64 scol] 42)).alloc (.cells #[.int .i64 pim, .int .i64 pid, .bool palt, .int .i64 pline, .int .i64 pcol, .int .i64 prows, .int .i64 pcols, .int .i64 px, .int .i64 py, .int .i64 pw, .int .i64 ph, .int .i64 pdx, .int .i64 pdy, .int .i64 pz] 51)).alloc (.cells #[.int .i64 0, .int .i64 0, .slice none 0 0] 35) = V := ⟨_, rfl⟩
  have kV : Kept (fun _ => False) w V := by rw [← hV]; exact ((((Kept.refl _ _).alloc _).alloc _).alloc _).alloc _
  have b0 : V.heap[w.heap.size]? = some (.cells #[.int .i64 W, .int .i64 H, .slice a n cap] 35 (0, 0)) := by rw [← hV]; exact blk_alloc (blk_alloc (blk_alloc (blk_new _ _) _) _) _
  have b1 : V.heap[w.heap.size + 1]? = some (.cells #[.int .i64 rows, .int .i64 cols, .int .i64 cw, .int .i64 ch, .slice la ln lc, .slice pa pn pc, .slice ia ik ic, .int .i64 top, .bool cur, .int .i64 srow, .int .i64 scol] 42 (0, 0)) := by rw [← hV]; exact blk_alloc (blk_alloc (blk_at _ _ (by simp)) _) _
  have b2 : V.heap[w.heap.size + 1 + 1]? = some (.cells #[.int .i64 pim, .int .i64 pid, .bool palt, .int .i64 pline, .int .i64 pcol, .int .i64 prows, .int .i64 pcols, .int .i64 px, .int .i64 py, .int .i64 pw, .int .i64 ph, .int .i64 pdx, .int .i64 pdy, .int .i64 pz] 51 (0, 0)) := by rw [← hV]; exact blk_alloc (blk_at _ _ (by simp)) _
  have b3 : V.heap[w.heap.size + 1 + 1 + 1]? = some (.cells #[.int .i64 0, .int .i64 0, .slice none 0 0] 35 (0, 0)) := by rw [← hV]; exact blk_at _ _ (by simp)
  have HV := Lib.hid (And.intro kV (And.intro b0 (And.intro b1 (And.intro b2 b3))))
  have HMP := Lib.hid (show SlAt .u8 w a n P ∧ (a = none → n = 0 ∧ cap = 0) from by
    obtain ⟨a9, c9, hv, hsl, -, -, hnn, -⟩ := ho.shape
    have h1 : P.length = n := by cases hv; rfl
    cases hv
    exact ⟨hsl, hnn⟩)
  have HM := Lib.hid (And.intro ho (And.intro hPb (And.intro hL (And.intro hr (And.intro hr1 (And.intro hll hri))))))
  have HN := Lib.hid (And.intro hW (And.intro hH (And.intro hn (And.intro hn2 (And.intro hn0 hik)))))
  clear kV b0 b1 b2 b3 ho hPb hL hr hr1 hll hri hW hH hn hn2 hn0 hik hcw hch htop
  obtain ⟨-, -, -, -, -, -, x6, -⟩ := blk11 HV.out.2.2.1
  go_enter Try.func40, Try.ntmps40
  go_wp2
  clear x6
  go_loopg [7, 8, 9, 10, 11, 12] ik (fun gg iv _ _ _ _ _ wr => ∃ i : Nat, ik ≤ gg + i ∧ i ≤ ik ∧ iv = .int .i64 (i : Int) ∧ Kept (fun _ => False) V wr ∧ lookI L pim = lookI (L.drop i) pim)
  case atStart => exact ⟨0, by omega, by omega, rfl, Kept.refl _ _, rfl⟩
  case round =>
    obtain ⟨i, hgg, hik, rfl, hk, hlk⟩ := hrel
    obtain ⟨-, -, -, -, -, -, x6, -⟩ := blk11 (hk.blk HV.out.2.2.1 id)
    by_cases hi1 : i < ik
    · have g1 : decide (i < ik) = true := decide_eq_true hi1
      have g1' : decide ((i : Int) < (ik : Int)) = true := decide_eq_true (by omega)
      have wi : IntKind.i64.wrap ((i : Int) + 1) = (i : Int) + 1 := IntWalk.i64_in _ (by have := HN.out; omega)
      have i0 : (0 : Int) ≤ (i : Int) := by omega
      have i1 : (i : Int) < (ik : Int) := by omega
      obtain ⟨bb, off, rfl, hbB, hcs⟩ := HM.out.2.2.1.2.2.resolve_left (by omega)
      obtain ⟨q, hq⟩ : ∃ q, L[i]? = some q := ⟨_, List.getElem?_eq_getElem (by have := HM.out.2.2.2.2.2.1; omega)⟩
      have hqm := List.mem_of_getElem? hq
      obtain ⟨c0, c1, c2, c3⟩ := hcs i q hq
      have hdrop : L.drop i = q :: L.drop (i + 1) := by
        have hlt := (List.getElem?_eq_some_iff.1 hq).1
        rw [List.drop_eq_getElem_cons hlt]
        congr 1
        rw [List.getElem?_eq_getElem hlt] at hq
        exact Option.some.inj hq
      rw [hdrop] at hlk
      rw [show lookI (q :: L.drop (i + 1)) pim = if q.1 = pim then some q.2 else lookI (L.drop (i + 1)) pim from rfl] at hlk
      obtain ⟨E1, hE1⟩ : ∃ E, wr.drew = E := ⟨_, rfl⟩
      have kE : Kept (fun _ => False) wr E1 := by rw [← hE1]; exact (Kept.refl _ _).drew
      have kWE := HV.out.1.then (hk.then kE)
      have d0 := kWE.cell c0 id
      have d1 := kWE.cell c1 id
      have d2 := kWE.cell c2 id
      have d3 := kWE.cell c3 id
      obtain ⟨y0, -⟩ := blk14 ((hk.then kE).blk HV.out.2.2.2.1 id)
      obtain ⟨-, -, -, -, -, -, r6, -⟩ := blk11 ((hk.then kE).blk HV.out.2.2.1 id)
      have HK := Lib.hid (hk.then kE)
      have HQ := Lib.hid (And.intro hqm (And.intro c1 (And.intro c2 c3)))
      clear hk kE kWE hcs hq hdrop c0 c1 c2 c3 hqm
      by_cases hid : q.1 = pim
      rotate_left
      · rw [if_neg hid] at hlk
        have n0 : (q.1 != pim) = true := by simpa using hid
        have HLK := Lib.hid hlk
        clear hid hlk
        go_wp2
        go_still (by kernel_rfl)
        rw [show (World.mk wr.heap wr.tape (wr.drawn + 1) wr.os wr.output) = E1 from hE1]
        go_wp2
        go_roundg (gk - 1)
        case rel => exact ⟨i + 1, by omega, by omega, by go_num, HK.out, HLK.out⟩
        case measure => omega
      rw [if_pos hid] at hlk
      have HLK := Lib.hid hlk
      clear hlk
      rw [hid] at d0
      clear hid
      obtain ⟨y0, y1, y2, y3, y4, y5, y6, y7, y8, y9, y10, y11, y12, y13⟩ := blk14 (HK.out.blk HV.out.2.2.2.1 (fun h => h))
      obtain ⟨x0, x1, x2, x3, x4, x5, x6, x7, x8, x9, x10⟩ := blk11 (HK.out.blk HV.out.2.2.1 (fun h => h))
      go_wp2
      go_still (by kernel_rfl)
      rw [show (World.mk wr.heap wr.tape (wr.drawn + 1) wr.os wr.output) = E1 from hE1]
      go_wp2_with fail
      refine (HREG.out _).mono ?_
      rintro e w2 ⟨rfl, hk2⟩
      obtain ⟨qid, m⟩ := q
      have hmr := HM.out.2.2.2.1 (qid, m) HQ.out.1
      have hme := HM.out.2.2.1.2.1 (qid, m) HQ.out.1
      simp only at hmr hme d0 d1 d2 d3 HLK HQ
      obtain ⟨Wm, Hm, eW, eH⟩ := natsM hmr.1
      obtain ⟨mk, mx, my, ma, mn, mc, mp, born⟩ := m
      unfold ME.mx at eW eH hmr
      simp only at eW eH hmr hme d1 d2 d3 HLK HQ
      subst eW eH
      obtain ⟨WR, hWR⟩ : ∃ WR, WR = w2.drew := ⟨_, rfl⟩
      have kR : Kept (fun _ => False) w2 WR := by rw [hWR]; exact (Kept.refl _ _).drew
      have kVR := HK.out.then (hk2.then kR)
      obtain ⟨-, -, -, -, -, -, x6, -⟩ := blk11 (kVR.blk HV.out.2.2.1 (fun h => h))
      obtain ⟨-, -, -, -, -, -, -, y7, y8, y9, y10, -⟩ := blk14 (kVR.blk HV.out.2.2.2.1 (fun h => h))
      have kWR := HV.out.1.then kVR
      have X6 := cell_regrown x6
      have X1 := cell_regrown (kWR.cell HQ.out.2.1 (fun h => h))
      have X2 := cell_regrown (kWR.cell HQ.out.2.2.1 (fun h => h))
      have X3 := cell_regrown (kWR.cell HQ.out.2.2.2 (fun h => h))
      have Y7 := cell_regrown y7
      have Y8 := cell_regrown y8
      have Y9 := cell_regrown y9
      have Y10 := cell_regrown y10
      obtain ⟨⟨C, D, CP⟩, hCM⟩ : ∃ x, cutM Wm Hm px py pw ph mp = x := ⟨_, rfl⟩
      have HCUT := Lib.hid (fun (x : World) (hs : SlAt .u8 x ma mn mp) => show Calls Try.prog 67 #[.agg #[.int .i64 Wm, .int .i64 Hm, .slice ma mn mc], .int .i64 px, .int .i64 py, .int .i64 pw, .int .i64 ph] x fun e w' => ∃ v, e = .returned (.agg #[.int .i64 C, .int .i64 D, v]) ∧ Made x CP v w' from by
        have hpo := HPO.out
        have h := rcut_any Wm Hm px py pw ph mp ma mn mc x hpo.x hpo.y (by have := hpo.w; unfold I64; simp only at this; omega) (by have := hpo.h; unfold I64; simp only at this; omega) hmr.1 hs hmr.2 hme.c.1 hme.c.2
        rw [hCM] at h
        exact h)
      have HCM := Lib.hid hCM
      have HME := Lib.hid (And.intro hmr (And.intro hme kWR))
      obtain ⟨cn, hcn⟩ : ∃ x, CP.length = x := ⟨_, rfl⟩
      have HCN := Lib.hid hcn
      obtain ⟨R14, hR14⟩ : ∃ R : Value → World → Prop, R = fun v w' => ∃ ca cc, v = .agg #[.int .i64 C, .int .i64 D, .slice ca cn cc] ∧ Own .u8 5 w' (.slice ca cn cc) CP := ⟨_, rfl⟩
      obtain ⟨R15, hR15⟩ : ∃ R : Value → World → Prop, R = fun v w' => ∃ q, v = .pointer (some ⟨q, 0, none⟩) ∧ WR.heap.size ≤ q ∧ w'.heap[q]? = some (.cells #[.int .i64 0, .int .i64 0, .slice none 0 0] 35 (0, 0)) := ⟨_, rfl⟩
      have HR14 := Lib.hid hR14
      have HR15 := Lib.hid hR15
      have HWR := Lib.hid hWR
      have HVR := Lib.hid kVR
      clear hk2 kR kVR kWR hCM hmr hme hcn hR14 hR15 hWR d0 d1 d2 d3 r6
      go_wp2
      refine wp_region_grow #[0, 1, 0, 7, 15, 31, 0, 64, 0, 256, 0, 1024, 0, 4096, 16383, 0, 65535] 16 [] (fun i => if i = 14 then some R14 else if i = 15 then some R15 else none) (by kernel_rfl) rfl (by kernel_rfl) (fun i hi => by cases hi) (fun _ _ _ _ _ h => h) ?_
      rintro _ rfl
      rw [← HWR.out]
      simp only [List.take_succ_cons, List.take_zero, List.drop_succ_cons, List.drop_zero, number, Nat.reduceAdd]
      repeat (refine wpGrow_step (fun K hK => ?_); go_simp; refine hK _ _ ?_; clear hK K)
      refine wpGrow_step (fun K hK => ?_)
      go_simp
      refine ⟨fun w' hg => ?_, fun v14 w14 hv14 _ => ?_⟩
      · refine (HCUT.out w' (HME.out.2.1.s.up (HME.out.2.2.then hg.old))).mono ?_
        rintro e w5 ⟨v, rfl, hm, hk, hb⟩
        refine ⟨_, rfl, hk, ?_⟩
        rw [HR14.out]
        obtain ⟨ca, cc, hce, -⟩ := hm.shape
        rw [HCN.out] at hce
        subst hce
        exact ⟨ca, cc, rfl, hm⟩
      rw [HR14.out] at hv14
      obtain ⟨ca, cc, rfl, hs14⟩ := hv14
      have HS14 := Lib.hid hs14
      clear hs14
      refine hK _ _ ?_; clear hK K
      refine wpGrow_step (fun K hK => ?_)
      go_simp
      refine ⟨fun w' hg => ⟨(Kept.refl _ _).alloc _, by rw [HR15.out]; exact ⟨_, rfl, hg.old.size, blk_new _ _⟩⟩, fun v15 w15 hv15 _ => ?_⟩
      rw [HR15.out] at hv15
      obtain ⟨qb, rfl, hqb, hqb2⟩ := hv15
      refine hK _ _ ?_; clear hK K
      refine wpGrow_nil ?_
      intro w3 hk3 hω
      have bq3 := (show Kept (fun _ => False) w15 w3 from hω 15).blk hqb2 id
      have hs3 := HS14.out.kept (show Kept (fun _ => False) w14 w3 from hω 14) (fun _ _ => id)
      obtain ⟨U1, U2, U3, f1, f2, f3, ⟨z0, z0'⟩, ⟨z1, z1'⟩, ⟨z2, z2'⟩, bU, kU⟩ := store3 bq3 (.int .i64 C) (.int .i64 D) (.slice ca cn cc)
      have hVz := HVR.out.size
      have k3U : Kept (fun _ => False) V U3 := (HVR.out.then hk3).trans (kU.mono fun j _ hj => Or.inr (by have h9 : j = qb := hj; omega))
      obtain ⟨⟨b0, -⟩, ⟨b1, -⟩, b2, -⟩ := blk3 bU
      obtain ⟨⟨a0, -⟩, ⟨a1, -⟩, a2, -⟩ := blk3 (k3U.blk HV.out.2.1 (fun h => h))
      have hqbV : V.heap.size ≤ qb := by omega
      have hoU := hs3.kept kU (fun b hb (hS : b = qb) => by
        obtain ⟨c, hc⟩ := own_blk hs3 hb
        rw [hS, bq3] at hc
        cases hc)
      have hlV := lt_of_blk HV.out.2.2.2.2
      have H3 := Lib.hid (And.intro k3U (And.intro bU (And.intro hoU (And.intro hqbV hlV))))
      clear hω hk3 hqb hqb2 bq3 hs3 kU bU k3U hqbV hoU hVz hlV X6 X1 X2 X3 Y7 Y8 Y9 Y10
      have HIM := Lib.hid (show RES = if rw' = 0 then P else if 0 < C then layG W H C D rw'.toNat rh.toNat rx ry P CP n else P from by
        rw [← HRES.out, HIDP.out, HLK.out]
        simp only
        rw [HRG.out]
        simp only [Int.toNat_natCast]
        rw [HCM.out])
      by_cases h0 : rw' = 0
      · have HRS := Lib.hid (show RES = P from by rw [HIM.out, if_pos h0])
        subst h0
        obtain ⟨T1, T2, T3, t1, t2, t3, ⟨s0, s0'⟩, ⟨s1, s1'⟩, ⟨s2, s2'⟩, bT, kT⟩ := store3 (H3.out.1.blk HV.out.2.2.2.2 id) (.int .i64 W) (.int .i64 H) (.slice a n cap)
        obtain ⟨⟨m0, -⟩, ⟨m1, -⟩, m2, -⟩ := blk3 bT
        have HF := Lib.hid (And.intro (HM.out.1.kept ((HV.out.1.then H3.out.1).trans (kT.mono fun j _ hj => Or.inr (by have h9 : j = w.heap.size + 1 + 1 + 1 := hj; omega))) (fun _ _ => id)) ((HV.out.1.then H3.out.1).trans (kT.mono fun j _ hj => Or.inr (by have h9 : j = w.heap.size + 1 + 1 + 1 := hj; omega))))
        clear bT kT
        go_wp2
        exact bodyPost_ret (v := .agg #[.int .i64 W, .int .i64 H, .slice a n cap]) (by simp [results, Try.results40, go_sem, m0, m1, m2]) rfl (by rw [HRS.out]; exact ImgR.mk' HF.out.1 HF.out.2 (.inl ⟨rfl, rfl⟩))
      have n0 : (rw' == 0) = false := by simpa using h0
      by_cases hC : C = 0
      · have HRS := Lib.hid (show RES = P from by rw [HIM.out, if_neg h0, if_neg (by omega)])
        have nC : ((C : Int) == 0) = true := by simp [hC]
        clear h0 hC
        obtain ⟨T1, T2, T3, t1, t2, t3, ⟨s0, s0'⟩, ⟨s1, s1'⟩, ⟨s2, s2'⟩, bT, kT⟩ := store3 (H3.out.1.blk HV.out.2.2.2.2 id) (.int .i64 W) (.int .i64 H) (.slice a n cap)
        obtain ⟨⟨m0, -⟩, ⟨m1, -⟩, m2, -⟩ := blk3 bT
        have HF := Lib.hid (And.intro (HM.out.1.kept ((HV.out.1.then H3.out.1).trans (kT.mono fun j _ hj => Or.inr (by have h9 : j = w.heap.size + 1 + 1 + 1 := hj; omega))) (fun _ _ => id)) ((HV.out.1.then H3.out.1).trans (kT.mono fun j _ hj => Or.inr (by have h9 : j = w.heap.size + 1 + 1 + 1 := hj; omega))))
        clear bT kT
        go_wp2
        exact bodyPost_ret (v := .agg #[.int .i64 W, .int .i64 H, .slice a n cap]) (by simp [results, Try.results40, go_sem, m0, m1, m2]) rfl (by rw [HRS.out]; exact ImgR.mk' HF.out.1 HF.out.2 (.inl ⟨rfl, rfl⟩))
      have nC : ((C : Int) == 0) = false := by simpa using hC
      have HOKC := Lib.hid (show CP.length = 4 * (C * D) ∧ C ≤ Wm ∧ D ≤ Hm ∧ 1 ≤ D ∧ rightM ⟨C, D, CP⟩ = true ∧ Wm ≤ 16384 ∧ Hm ≤ 16384 ∧ CP.length ≤ mp.length ∧ IsBytes CP from by
        have h := cutM_ok (x := px) (y := py) (cw := pw) (ch := ph) HME.out.1.1 (by rw [HCM.out]; omega)
        have h2 := cutM_bytes (W := Wm) (H := Hm) (x := px) (y := py) (cw := pw) (ch := ph) HME.out.2.1.by'
        rw [HCM.out] at h h2
        exact ⟨h.1, h.2.1, h.2.2.1, h.2.2.2.1, h.2.2.2.2.1, h.2.2.2.2.2.1, h.2.2.2.2.2.2.1, h.2.2.2.2.2.2.2, h2⟩)
      obtain ⟨FW, hFW, FH, hFH, hFWb, hFHb⟩ : ∃ FW : Nat, rw' = (FW : Int) ∧ ∃ FH : Nat, rh = (FH : Int) ∧ (1 ≤ FW ∧ FW ≤ 4096) ∧ (1 ≤ FH ∧ FH ≤ 4096) := by
        have h := regP_pos (cw := cw) (ch := ch) (top := top) (p := ⟨pim, pid, palt, pline, pcol, prows, pcols, px, py, pw, ph, pdx, pdy, pz⟩) (by rw [HRG.out]; exact h0)
        rw [HRG.out] at h
        simp only at h
        have h2 := HBIG.out
        exact ⟨rw'.toNat, by omega, rh.toNat, by omega, by omega, by omega⟩
      subst hFW hFH
      have HFB := Lib.hid (show (1 ≤ FW ∧ FW ≤ 4096) ∧ (1 ≤ FH ∧ FH ≤ 4096) ∧ C ≤ 16384 ∧ D ≤ 16384 ∧ 1 ≤ C ∧ 1 ≤ D ∧ cn = 4 * (C * D) ∧ cn ≤ 16384 from by
        have h := HOKC.out
        have h1 := HCN.out
        have h2 := HME.out.1.2
        have h3 : mp.length = mn := HME.out.2.1.s.1
        omega)
      have HIM2 := Lib.hid (show RES = layG W H C D FW FH rx ry P CP n from by
        have h := HIM.out
        rw [if_neg h0, if_pos (by omega)] at h
        simpa only [Int.toNat_natCast] using h)
      clear h0 hC hFWb hFHb
      by_cases hse : FW = C ∧ FH = D
      · obtain ⟨rfl, rfl⟩ := hse
        have HRS := Lib.hid (show RES = tab n (drawF (spotOf W H FW FH rx ry) P CP) from by rw [HIM2.out]; exact (lay_same HFB.out.1.1 HFB.out.2.1.1).symm)
        have HU := Lib.hid (And.intro H3.out.1 (HV.out.1.then H3.out.1))
        have HDR := Lib.hid (show Calls Try.prog 69 #[.agg #[.int .i64 W, .int .i64 H, .slice a n cap], .agg #[.int .i64 FW, .int .i64 FH, .slice ca cn cc], .int .i64 rx, .int .i64 ry] U3 fun e w' => ∃ v, e = .returned (.agg #[.int .i64 W, .int .i64 H, v]) ∧ Made U3 (tab n (drawF (spotOf W H FW FH rx ry) P CP)) v w' from
          rdrawG_any W H FW FH rx ry P CP a ca n cap cn cc U3 HM.out.2.2.2.2.2.2.1 HM.out.2.2.2.2.2.2.2 HN.out.1 HN.out.2.1 (by have := HFB.out; omega) (by have := HFB.out; omega) HN.out.2.2.1 (HFB.out.2.2.2.2.2.2.1) HN.out.2.2.2.1 (by have := HFB.out; omega) (HMP.out.1.up (HU.out.2)) (own_sl H3.out.2.2.1) HM.out.2.1 (HOKC.out.2.2.2.2.2.2.2.2) HMP.out.2)
        go_wp2_with fail
        refine HDR.out.mono ?_
        rintro e w9 ⟨dv, rfl, hm9, hk9, hb9⟩
        obtain ⟨da, dc, hde, -⟩ := hm9.shape
        rw [tab_length] at hde
        subst hde
        obtain ⟨T1, T2, T3, t1, t2, t3, ⟨s0, s0'⟩, ⟨s1, s1'⟩, ⟨s2, s2'⟩, bT, kT⟩ := store3 ((HU.out.1.then hk9).blk HV.out.2.2.2.2 id) (.int .i64 W) (.int .i64 H) (.slice da n dc)
        obtain ⟨⟨m0, -⟩, ⟨m1, -⟩, m2, -⟩ := blk3 bT
        have hzV := HU.out.1.size
        have hzb := lt_of_blk HV.out.2.2.2.2
        have HF := Lib.hid (And.intro (hm9.kept kT (fun b hb (hS : b = w.heap.size + 1 + 1 + 1) => by have := hb9 b hb; omega)) (And.intro ((HV.out.1.then (HU.out.1.then hk9)).trans (kT.mono fun j _ hj => Or.inr (by have h9 : j = w.heap.size + 1 + 1 + 1 := hj; omega))) (fun b hb => (by have h9 := hb9 b hb; omega : w.heap.size ≤ b))))
        clear hm9 hk9 hb9 bT kT hzV hzb
        go_wp2
        exact bodyPost_ret (v := .agg #[.int .i64 W, .int .i64 H, .slice da n dc]) (by simp [results, Try.results40, go_sem, m0, m1, m2]) rfl (by rw [HRS.out]; exact ImgR.mk' HF.out.1 HF.out.2.1 (.inr HF.out.2.2))
      have HFIT := Lib.hid (show Calls Try.prog 68 #[.agg #[.int .i64 C, .int .i64 D, .slice ca cn cc], .int .i64 FW, .int .i64 FH] U3 fun e w' => ∃ g k : Nat, k = 4 * (FW * FH) ∧ e = .returned (.tuple #[.agg #[.int .i64 FW, .int .i64 FH, .slice (some ⟨g, 0, none⟩) k k], .int .i64 0]) ∧ U3.heap.size ≤ g ∧ Own .u8 5 w' (.slice (some ⟨g, 0, none⟩) k k) (tab k (fitF FW FH C D CP)) ∧ Kept (fun _ => False) U3 w' from by
        have hb := HFB.out
        have hm : FW * FH ≤ 4096 * 4096 := Nat.mul_le_mul (by omega) (by omega)
        refine rfitG_yes FW FH C D CP ca cn cc U3 ?_ (by omega) HOKC.out.2.2.2.2.1 (own_sl H3.out.2.2.1) (by omega)
        unfold sizeB
        refine decide_eq_true (.inr ⟨by omega, by omega, by omega, by omega, ?_⟩)
        rw [← Int.natCast_mul]; omega)
      have HRS := Lib.hid (show RES = tab n (drawF (spotOf W H FW FH rx ry) P (tab (4 * (FW * FH)) (fitF FW FH C D CP))) from by rw [HIM2.out]; exact (lay_fit HFB.out.1.1).symm)
      by_cases hfw : FW = C
      · have hfh : ¬ FH = D := fun h => hse ⟨hfw, h⟩
        have e1 : ((FW : Int) != (C : Int)) = false := by simp [hfw]
        have e2 : ((FH : Int) != (D : Int)) = true := by simp; omega
        clear hse hfw hfh
        go_wp2_with fail
        refine HFIT.out.mono ?_
        rintro e w4 ⟨fg, fk, hfk, rfl, hfg, hof, hk4⟩
        obtain ⟨S1, S2, S3, r1, r2, r3, ⟨q0, q0'⟩, ⟨q1, q1'⟩, ⟨q2, q2'⟩, bS, kS⟩ := store3 (hk4.blk H3.out.2.1 id) (.int .i64 FW) (.int .i64 FH) (.slice (some ⟨fg, 0, none⟩) fk fk)
        obtain ⟨⟨b0, -⟩, ⟨b1, -⟩, b2, -⟩ := blk3 bS
        have hlq := lt_of_blk H3.out.2.1
        have hqV := H3.out.2.2.2.1
        have kVS : Kept (fun _ => False) V S3 := (H3.out.1.then hk4).trans (kS.mono fun j _ hj => Or.inr (by have h9 : j = qb := hj; omega))
        obtain ⟨⟨a0, -⟩, ⟨a1, -⟩, a2, -⟩ := blk3 (kVS.blk HV.out.2.1 (fun h => h))
        have HU := Lib.hid (And.intro kVS (HV.out.1.then kVS))
        have HOF := Lib.hid (hof.kept kS (fun b hb (hS : b = qb) => by have h8 : fg = b := (by cases hb; rfl); omega))
        have hfl : FW * FH ≤ 4096 * 4096 := Nat.mul_le_mul (by have := HFB.out; omega) (by have := HFB.out; omega)
        have HFK := Lib.hid (And.intro hfk (show fk ≤ 67108864 by omega))
        have HFB2 := Lib.hid (show IsBytes (tab fk (fitF FW FH C D CP)) from bytes_tab fun q => getD_byte HOKC.out.2.2.2.2.2.2.2.2 _)
        rw [← hfk] at HRS
        clear hfk hfg hof hk4 bS kS hlq hqV kVS hfl
        have HDR := Lib.hid (show Calls Try.prog 69 #[.agg #[.int .i64 W, .int .i64 H, .slice a n cap], .agg #[.int .i64 FW, .int .i64 FH, .slice (some ⟨fg, 0, none⟩) fk fk], .int .i64 rx, .int .i64 ry] S3 fun e w' => ∃ v, e = .returned (.agg #[.int .i64 W, .int .i64 H, v]) ∧ Made S3 (tab n (drawF (spotOf W H FW FH rx ry) P (tab fk (fitF FW FH C D CP)))) v w' from
          rdrawG_any W H FW FH rx ry P (tab fk (fitF FW FH C D CP)) a (some ⟨fg, 0, none⟩) n cap fk fk S3 HM.out.2.2.2.2.2.2.1 HM.out.2.2.2.2.2.2.2 HN.out.1 HN.out.2.1 (by have := HFB.out; omega) (by have := HFB.out; omega) HN.out.2.2.1 (HFK.out.1) HN.out.2.2.2.1 (HFK.out.2) (HMP.out.1.up (HU.out.2)) (HOF.out.slAt) HM.out.2.1 (HFB2.out) HMP.out.2)
        go_wp2_with fail
        refine HDR.out.mono ?_
        rintro e w9 ⟨dv, rfl, hm9, hk9, hb9⟩
        obtain ⟨da, dc, hde, -⟩ := hm9.shape
        rw [tab_length] at hde
        subst hde
        obtain ⟨T1, T2, T3, t1, t2, t3, ⟨s0, s0'⟩, ⟨s1, s1'⟩, ⟨s2, s2'⟩, bT, kT⟩ := store3 ((HU.out.1.then hk9).blk HV.out.2.2.2.2 id) (.int .i64 W) (.int .i64 H) (.slice da n dc)
        obtain ⟨⟨m0, -⟩, ⟨m1, -⟩, m2, -⟩ := blk3 bT
        have hzV := HU.out.1.size
        have hzb := lt_of_blk HV.out.2.2.2.2
        have HF := Lib.hid (And.intro (hm9.kept kT (fun b hb (hS : b = w.heap.size + 1 + 1 + 1) => by have := hb9 b hb; omega)) (And.intro ((HV.out.1.then (HU.out.1.then hk9)).trans (kT.mono fun j _ hj => Or.inr (by have h9 : j = w.heap.size + 1 + 1 + 1 := hj; omega))) (fun b hb => (by have h9 := hb9 b hb; omega : w.heap.size ≤ b))))
        clear hm9 hk9 hb9 bT kT hzV hzb
        go_wp2
        exact bodyPost_ret (v := .agg #[.int .i64 W, .int .i64 H, .slice da n dc]) (by simp [results, Try.results40, go_sem, m0, m1, m2]) rfl (by rw [HRS.out]; exact ImgR.mk' HF.out.1 HF.out.2.1 (.inr HF.out.2.2))
      have e1 : ((FW : Int) != (C : Int)) = true := by simp; omega
      clear hse hfw
      go_wp2_with fail
      refine HFIT.out.mono ?_
      rintro e w4 ⟨fg, fk, hfk, rfl, hfg, hof, hk4⟩
      obtain ⟨S1, S2, S3, r1, r2, r3, ⟨q0, q0'⟩, ⟨q1, q1'⟩, ⟨q2, q2'⟩, bS, kS⟩ := store3 (hk4.blk H3.out.2.1 id) (.int .i64 FW) (.int .i64 FH) (.slice (some ⟨fg, 0, none⟩) fk fk)
      obtain ⟨⟨b0, -⟩, ⟨b1, -⟩, b2, -⟩ := blk3 bS
      have hlq := lt_of_blk H3.out.2.1
      have hqV := H3.out.2.2.2.1
      have kVS : Kept (fun _ => False) V S3 := (H3.out.1.then hk4).trans (kS.mono fun j _ hj => Or.inr (by have h9 : j = qb := hj; omega))
      obtain ⟨⟨a0, -⟩, ⟨a1, -⟩, a2, -⟩ := blk3 (kVS.blk HV.out.2.1 (fun h => h))
      have HU := Lib.hid (And.intro kVS (HV.out.1.then kVS))
      have HOF := Lib.hid (hof.kept kS (fun b hb (hS : b = qb) => by have h8 : fg = b := (by cases hb; rfl); omega))
      have hfl : FW * FH ≤ 4096 * 4096 := Nat.mul_le_mul (by have := HFB.out; omega) (by have := HFB.out; omega)
      have HFK := Lib.hid (And.intro hfk (show fk ≤ 67108864 by omega))
      have HFB2 := Lib.hid (show IsBytes (tab fk (fitF FW FH C D CP)) from bytes_tab fun q => getD_byte HOKC.out.2.2.2.2.2.2.2.2 _)
      rw [← hfk] at HRS
      clear hfk hfg hof hk4 bS kS hlq hqV kVS hfl
      have HDR := Lib.hid (show Calls Try.prog 69 #[.agg #[.int .i64 W, .int .i64 H, .slice a n cap], .agg #[.int .i64 FW, .int .i64 FH, .slice (some ⟨fg, 0, none⟩) fk fk], .int .i64 rx, .int .i64 ry] S3 fun e w' => ∃ v, e = .returned (.agg #[.int .i64 W, .int .i64 H, v]) ∧ Made S3 (tab n (drawF (spotOf W H FW FH rx ry) P (tab fk (fitF FW FH C D CP)))) v w' from
        rdrawG_any W H FW FH rx ry P (tab fk (fitF FW FH C D CP)) a (some ⟨fg, 0, none⟩) n cap fk fk S3 HM.out.2.2.2.2.2.2.1 HM.out.2.2.2.2.2.2.2 HN.out.1 HN.out.2.1 (by have := HFB.out; omega) (by have := HFB.out; omega) HN.out.2.2.1 (HFK.out.1) HN.out.2.2.2.1 (HFK.out.2) (HMP.out.1.up (HU.out.2)) (HOF.out.slAt) HM.out.2.1 (HFB2.out) HMP.out.2)
      go_wp2_with fail
      refine HDR.out.mono ?_
      rintro e w9 ⟨dv, rfl, hm9, hk9, hb9⟩
      obtain ⟨da, dc, hde, -⟩ := hm9.shape
      rw [tab_length] at hde
      subst hde
      obtain ⟨T1, T2, T3, t1, t2, t3, ⟨s0, s0'⟩, ⟨s1, s1'⟩, ⟨s2, s2'⟩, bT, kT⟩ := store3 ((HU.out.1.then hk9).blk HV.out.2.2.2.2 id) (.int .i64 W) (.int .i64 H) (.slice da n dc)
      obtain ⟨⟨m0, -⟩, ⟨m1, -⟩, m2, -⟩ := blk3 bT
      have hzV := HU.out.1.size
      have hzb := lt_of_blk HV.out.2.2.2.2
      have HF := Lib.hid (And.intro (hm9.kept kT (fun b hb (hS : b = w.heap.size + 1 + 1 + 1) => by have := hb9 b hb; omega)) (And.intro ((HV.out.1.then (HU.out.1.then hk9)).trans (kT.mono fun j _ hj => Or.inr (by have h9 : j = w.heap.size + 1 + 1 + 1 := hj; omega))) (fun b hb => (by have h9 := hb9 b hb; omega : w.heap.size ≤ b))))
      clear hm9 hk9 hb9 bT kT hzV hzb
      go_wp2
      exact bodyPost_ret (v := .agg #[.int .i64 W, .int .i64 H, .slice da n dc]) (by simp [results, Try.results40, go_sem, m0, m1, m2]) rfl (by rw [HRS.out]; exact ImgR.mk' HF.out.1 HF.out.2.1 (.inr HF.out.2.2))
    · obtain rfl : i = ik := by omega
      have g1 : decide (i < i) = false := decide_eq_false (by omega)
      have hd : L.drop i = [] := List.drop_of_length_le (by have := HM.out.2.2.2.2.2.1; omega)
      rw [hd] at hlk
      have HR := Lib.hid (show RES = P from by
        rw [← HRES.out, HIDP.out, hlk]
        rfl)
      obtain ⟨⟨a0, -⟩, ⟨a1, -⟩, a2, -⟩ := blk3 (hk.blk HV.out.2.1 id)
      obtain ⟨U1, U2, U3, f1, f2, f3, ⟨z0, z0'⟩, ⟨z1, z1'⟩, ⟨z2, z2'⟩, bU, kU⟩ := store3 (hk.blk HV.out.2.2.2.2 id) (.int .i64 W) (.int .i64 H) (.slice a n cap)
      obtain ⟨⟨m0, -⟩, ⟨m1, -⟩, m2, -⟩ := blk3 bU
      have kWU : Kept (fun _ => False) w U3 := (HV.out.1.then hk).trans (kU.mono fun j _ hj => Or.inr (by have h9 : j = w.heap.size + 1 + 1 + 1 := hj; omega))
      have HE := Lib.hid (And.intro (HM.out.1.kept kWU (fun _ _ => id)) kWU)
      clear hk bU kU kWU hd hlk
      go_wp2
      exact bodyPost_ret (v := .agg #[.int .i64 W, .int .i64 H, .slice a n cap]) (by simp [results, Try.results40, go_sem, m0, m1, m2]) rfl (by rw [HR.out]; exact ImgR.mk' HE.out.1 HE.out.2 (.inl ⟨rfl, rfl⟩))
end Go.Proofs.Ytdjgmhbfohbenaa
