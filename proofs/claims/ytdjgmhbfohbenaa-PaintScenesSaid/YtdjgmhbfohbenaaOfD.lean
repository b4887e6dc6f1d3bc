/- The document's scene made out of the program's: of. -/
import Derived.Test.YtdjgmhbfohbenaaOfP
namespace Go.Proofs.Ytdjgmhbfohbenaa
open Go.RowKit Go.Sort Pl
set_option linter.unusedVariables false
set_option linter.unusedSimpArgs false
attribute [local go_sem] growOp growUpon sameUpon
set_option maxRecDepth 100000 in
set_option maxHeartbeats 16000000 in
theorem ofs_any (B : Nat) (rows cols cw ch top : Int) (cur : Bool) (row col : Int) (la : Option Addr) (ln lc : Nat) (pa : Option Addr) (pn pc : Nat) (im : Option Nat) (ls : List (List Cl)) (E : List ME) (L : List Pz) (w : World) (hs : SceneAt B w la ln pa pn im ls E L) (hB : B ≤ w.heap.size) (hln : ln * 24 ≤ 140737488355328) (hpn : pn ≤ 30) :
    Calls Try.prog 13 #[.agg #[.int .i64 rows, .int .i64 cols, .int .i64 cw, .int .i64 ch, .slice la ln lc, .slice pa pn pc, .map im, .int .i64 top, .bool cur, .int .i64 row, .int .i64 col]] w fun e w' => ∃ (a b c : Option Addr) (ca cb cc : Nat), e = .returned (.agg #[.int .i64 rows, .int .i64 cols, .int .i64 cw, .int .i64 ch, .slice a ln ca, .slice b pn cb, .slice c (imL E L).length cc, .int .i64 top, .bool cur, .int .i64 row, .int .i64 col]) ∧ Kept (fun _ => False) w w' ∧ LinesAt w'.heap.size w' a ln ls ∧ PzsAt w'.heap.size w' b pn L ∧ ImsAt w'.heap.size w' c (imL E L).length (imL E L) := by
  obtain ⟨S0, hS0⟩ : ∃ S : Value → Value → Value → Array Value, S = fun a b c => #[.int .i64 rows, .int .i64 cols, .int .i64 cw, .int .i64 ch, a, b, c, .int .i64 top, .bool cur, .int .i64 row, .int .i64 col] := ⟨_, rfl⟩
  obtain ⟨V, hV⟩ : ∃ X, (w.alloc (.cells #[.int .i64 rows, .int .i64 cols, .int .i64 cw, .int .i64 ch, .slice la ln lc, .slice pa pn pc, .map im, .int .i64 top, .bool cur, .int .i64 row, .int .i64 col] 26)).alloc (.cells #[.int .i64 0, .int .i64 0, .int .i64 0, .int .i64 0, .slice none 0 0, .slice none 0 0, .slice none 0 0, .int .i64 0, .bool false, .int .i64 0, .int .i64 0] 42) = X := ⟨_, rfl⟩
  have kV : Kept (fun _ => False) w V := by rw [← hV]; exact ((Kept.refl _ _).alloc _).alloc _
  have b0 : V.heap[w.heap.size]? = some (.cells #[.int .i64 rows, .int .i64 cols, .int .i64 cw, .int .i64 ch, .slice la ln lc, .slice pa pn pc, .map im, .int .i64 top, .bool cur, .int .i64 row, .int .i64 col] 26 (0, 0)) := by rw [← hV]; exact blk_alloc (blk_new _ _) _
  have b1 : V.heap[w.heap.size + 1]? = some (.cells #[.int .i64 0, .int .i64 0, .int .i64 0, .int .i64 0, .slice none 0 0, .slice none 0 0, .slice none 0 0, .int .i64 0, .bool false, .int .i64 0, .int .i64 0] 42 (0, 0)) := by rw [← hV]; exact blk_at _ _ (by simp)
  have zV : V.heap.size = w.heap.size + 2 := by rw [← hV]; simp
  obtain ⟨sb, hsb⟩ : ∃ x, V.heap.size = x := ⟨_, rfl⟩
  obtain ⟨S, hS⟩ : ∃ X, V.alloc (.cells #[.int .i64 rows, .int .i64 cols, .int .i64 cw, .int .i64 ch, .slice none 0 0, .slice none 0 0, .slice none 0 0, .int .i64 top, .bool cur, .int .i64 row, .int .i64 col] 42) = X := ⟨_, rfl⟩
  have kS : Kept (fun _ => False) V S := by rw [← hS]; exact (Kept.refl _ _).alloc _
  have bS : S.heap[V.heap.size]? = some (.cells #[.int .i64 rows, .int .i64 cols, .int .i64 cw, .int .i64 ch, .slice none 0 0, .slice none 0 0, .slice none 0 0, .int .i64 top, .bool cur, .int .i64 row, .int .i64 col] 42 (0, 0)) := by rw [← hS]; exact blk_new _ _
  obtain ⟨x0, x1, x2, x3, x4, x5, x6, x7, x8, x9, x10⟩ := blk11 b0
  obtain ⟨q0, q1, q2, q3, q4, q5, q6, q7, q8, q9, q10⟩ := blk11 (kS.blk b0 id)
  have HOF0 := Lib.hid (show OfI V S0 (.slice none 0 0) (.slice none 0 0) (.slice none 0 0) 0 0 0 [] [] [] S from ⟨OwnF.nil _ _ _, OwnF.nil _ _ _, OwnF.nil _ _ _, by rw [hS0]; exact bS, kS, (fun _ h => by cases h), (fun _ h => by cases h), (fun _ h => by cases h)⟩)
  have HS0 := Lib.hid hS0
  have HSC := Lib.hid (fun (x : World) (k : Kept (fun _ => False) V x) => show LinesAt B x la ln ls ∧ PzsAt B x pa pn L ∧ MapAt B x im E from ⟨hs.lines.kept (kV.then k) (fun _ h => h.elim), hs.places.kept (kV.then k) (fun _ h => h.elim), hs.images.kept (kV.then k) (fun _ h => h.elim)⟩)
  have HLSW := Lib.hid hs.lines
  have HEM := Lib.hid (fun (q : Int × ME) (hq : q ∈ imL E L) => show MEAt B w q.2 from hs.images.mem q.2 (imL_mem hq).1)
  have HBK := Lib.hid (fun (x : World) (k : Kept (fun _ => False) V x) => show x.heap[w.heap.size]? = some (.cells #[.int .i64 rows, .int .i64 cols, .int .i64 cw, .int .i64 ch, .slice la ln lc, .slice pa pn pc, .map im, .int .i64 top, .bool cur, .int .i64 row, .int .i64 col] 26 (0, 0)) ∧ x.heap[w.heap.size + 1]? = some (.cells #[.int .i64 0, .int .i64 0, .int .i64 0, .int .i64 0, .slice none 0 0, .slice none 0 0, .slice none 0 0, .int .i64 0, .bool false, .int .i64 0, .int .i64 0] 42 (0, 0)) from ⟨k.blk b0 id, k.blk b1 id⟩)
  have HLN := Lib.hid (And.intro hs.lines.1 (And.intro hs.places.1 (And.intro hln (And.intro hpn (And.intro hB (And.intro zV kV))))))
  have h63 : (9223372036854775807 : Nat) = maxLen := rfl
  obtain ⟨w0s, hw0s⟩ : ∃ x, w.heap.size = x := ⟨_, rfl⟩
  have lnb : ln ≤ 5864062014805 := by omega
  clear hs hln hB kV b0 b1 zV kS bS hS0 hsb hw0s
  go_enter Try.func13, Try.ntmps13
  go_wp2
  clear x0 x1 x2 x3 x4 x5 x6 x7 x8 x9 x10 q0 q1 q2 q3 q4 q5 q6 q7 q8 q9 q10
  go_loopg [4] ln (fun gg iv wr => ∃ (i : Nat) (av : Value) (xa : List Value), ln ≤ gg + i ∧ i ≤ ln ∧ iv = .int .i64 (i : Int) ∧ LnP B w ls i xa ∧ xa.length = i ∧ OfI V S0 av (.slice none 0 0) (.slice none 0 0) i 0 0 xa [] [] wr)
  case atStart => exact ⟨0, _, _, by omega, by omega, rfl, fun _ _ h => absurd h (Nat.not_lt_zero _), rfl, HOF0.out⟩
  case round =>
    obtain ⟨i, av, xa, hgg, hik, rfl, hlp, hxl, hof⟩ := hrel
    by_cases hi1 : i < ln
    · have g1 : decide (i < ln) = true := decide_eq_true hi1
      have g1' : decide ((i : Int) < (ln : Int)) = true := decide_eq_true (by omega)
      have wi : IntKind.i64.wrap ((i : Int) + 1) = (i : Int) + 1 := IntWalk.i64_in _ (by omega)
      have i0 : (0 : Int) ≤ (i : Int) := by omega
      have i1 : (i : Int) < (ln : Int) := by omega
      obtain ⟨av', ac, hae, -, -, -⟩ := hof.oa.shape
      subst hae
      obtain ⟨l, hl⟩ : ∃ l, ls[i]? = some l := ⟨_, List.getElem?_eq_getElem (by have := HLN.out.1; omega)⟩
      obtain ⟨WR, hWR⟩ : ∃ WR, WR = wr.drew := ⟨_, rfl⟩
      have kR : Kept (fun _ => False) wr WR := by rw [hWR]; exact (Kept.refl _ _).drew
      have hofR := hof.up kR
      obtain ⟨bb, off, rfl, hbB, hcs⟩ := (HSC.out WR hofR.k).1.2.resolve_left (by omega)
      obtain ⟨a', n', c', hlc, -⟩ := hcs i l hl
      have hla : LineAt B w a' n' l := by
        obtain ⟨bb3, off3, he3, -, hcs3⟩ := HLSW.out.2.resolve_left (by omega)
        cases he3
        obtain ⟨a3, n3, c3, h3, h4⟩ := hcs3 i l hl
        have h5 := (HLN.out.2.2.2.2.2.2.then hofR.k).cell h3 id
        rw [hlc] at h5
        cases h5
        exact h4
      obtain ⟨-, -, -, -, x4, -⟩ := blk11 (HBK.out WR hofR.k).1
      obtain ⟨-, -, -, -, x4w, -⟩ := blk11 (HBK.out wr hof.k).1
      have hsR := hofR.s
      rw [HS0.out] at hsR
      obtain ⟨-, -, -, -, s4, -⟩ := blk11 hsR
      have X1 := cell_regrown x4
      have X2 := cell_regrown hlc
      have X3 := cell_regrown s4
      obtain ⟨R7, hR7⟩ : ∃ R : Value → World → Prop, R = fun v w' => ∃ b, v = .slice (some ⟨b, 0, none⟩) 1 1 ∧ w'.heap[b]? = some (.cells #[.slice a' n' c'] 72 (0, 0)) := ⟨_, rfl⟩
      have HR7 := Lib.hid hR7
      have HWR := Lib.hid hWR
      have HOF := Lib.hid hofR
      have HLP := Lib.hid (And.intro hlp (And.intro hxl (And.intro hla (And.intro hl hgg))))
      obtain ⟨ti, hi, hz, hsz, hby⟩ := info_parts info72
      have HI := Lib.hid (And.intro hi (And.intro hz (And.intro hsz hby)))
      clear hi hz hsz hby hR7 hWR hof kR hofR hcs hla hlp hlc x4 s4 hsR hl
      go_wp2
      refine wp_region_grow #[0, 1, 0, 4, 0, 28, 60, 124, 255, 511, 1023] 8 [] (fun i => if i = 7 then some R7 else none) (by kernel_rfl) rfl (by kernel_rfl) (fun i hi => by cases hi) (fun _ _ _ _ _ h => h) ?_
      rintro _ rfl
      rw [← HWR.out]
      simp only [List.take_succ_cons, List.take_zero, List.drop_succ_cons, List.drop_zero, number, Nat.reduceAdd]
      iterate 7 (refine wpGrow_step (fun K hK => ?_); go_simp; refine hK _ _ ?_; clear hK K)
      refine wpGrow_step (fun K hK => ?_)
      go_simp
      refine ⟨fun w' hg => ⟨(Kept.refl _ _).alloc _, ?_⟩, fun v7 w7 hv7 _ => ?_⟩
      · rw [HR7.out]
        exact ⟨w'.heap.size, rfl, blk_new _ _⟩
      rw [HR7.out] at hv7
      obtain ⟨lb, rfl, hb7⟩ := hv7
      have HB7 := Lib.hid hb7
      clear hb7
      refine hK _ _ ?_; clear hK K
      refine wpGrow_nil ?_
      intro w10 hk10 hω
      have hk7 : Kept (fun _ => False) w7 w10 := hω 7
      have hb10 := hk7.blk HB7.out id
      have HSB := Lib.hid (fun (w' : World) (hk : Kept (fun k => (Value.slice av' i ac).ownBlock = some k) w10 w') => show w'.cell? ⟨V.heap.size, 4, none⟩ = some (.slice av' i ac) ∧ w'.frozen? ⟨V.heap.size, 4, none⟩ = false from by
        have hb := hk.blk (hk10.blk HOF.out.s id) (fun h => Nat.lt_irrefl _ (HOF.out.la _ h))
        rw [HS0.out] at hb
        exact ⟨blk_cell hb 4, blk_free hb 4⟩)
      have HV1 := Lib.hid (And.intro (HOF.out.oa.kept hk10 (fun _ _ => id)) (And.intro hb10 hk10))
      clear hω hk10 hk7 hb10 X1 X2 X3 x4w
      go_wp2_with (at_builtin; refine wpList_appF rfl (.tmp 33) (.tmp 39) 38 rfl 72 ti _ 1 24 Try.underlying38 HI.out.1 HI.out.2.1 HI.out.2.2.1 HI.out.2.2.2 rfl (by omega) (.slice av' i ac) i xa rfl HV1.out.1 lb [.slice a' n' c'] rfl rfl HV1.out.2.1 (by intro u hu; cases hu with | head => rfl | tail _ h => cases h) (by omega) (by have := HLN.out.2.2.1; omega) ?_; intro v8 w8 ho8 hk8 hpr8; obtain ⟨va, vc, hve, -, -, -⟩ := ho8.shape; subst hve; obtain ⟨p4, p4'⟩ := HSB.out w8 hk8; have H8 := Lib.hid (And.intro ho8 (And.intro hk8 hpr8)); clear ho8 hk8 hpr8)
      obtain ⟨U, hU⟩ : ∃ U, w8.setCell ⟨V.heap.size, 4, none⟩ (.slice va (i + 1) vc) = U := ⟨_, rfl⟩
      have HN := Lib.hid (show OfI V S0 (.slice va (i + 1) vc) (.slice none 0 0) (.slice none 0 0) (i + 1) 0 0 (xa ++ [.slice a' n' c']) [] [] U from by
        rw [← hU]
        exact HOF.out.appA (fun u => by rw [HS0.out]; rfl) HV1.out.2.2 H8.out.1 H8.out.2.1 H8.out.2.2)
      go_roundg (gk - 1)
      case rel => exact ⟨i + 1, .slice va (i + 1) vc, xa ++ [.slice a' n' c'], by omega, by omega, by go_num, by
        intro j l hj hjl
        obtain ⟨h1, h2, h3, h4, -⟩ := HLP.out
        by_cases hji : j = i
        · subst hji
          rw [h4] at hjl
          cases hjl
          exact ⟨a', n', c', by rw [List.getElem?_append_right (by omega), h2, Nat.sub_self]; rfl, h3⟩
        · obtain ⟨a9, n9, c9, h9, h10⟩ := h1 j l (by omega) hjl
          exact ⟨a9, n9, c9, by rw [List.getElem?_append_left (by omega)]; exact h9, h10⟩, by rw [List.length_append, HLP.out.2.1]; rfl, by rw [hU]; exact HN.out⟩
      case measure => omega
    · obtain rfl : i = ln := by omega
      have g1 : decide (i < i) = false := decide_eq_false (by omega)
      obtain ⟨-, -, -, -, x4, -⟩ := blk11 (HBK.out wr hof.k).1
      have HOF := Lib.hid hof
      have HLP := Lib.hid hlp
      clear hof hlp hxl hgg hik
      go_wp2
      clear x4
      go_loopg [5, 6, 7] pn (fun gg iv _ _ wr => ∃ (k : Nat) (bv cv : Value), pn ≤ gg + k ∧ k ≤ pn ∧ iv = .int .i64 (k : Int) ∧ OfI V S0 av bv cv i k (imL E (L.take k)).length xa ((L.take k).flatMap Pz.vs) ((imL E (L.take k)).flatMap imV) wr)
      case atStart => exact ⟨0, _, _, by omega, by omega, rfl, HOF.out⟩
      case round =>
        obtain ⟨k, bv, cv, hgg, hkk, rfl, hof⟩ := hrel
        by_cases hk1 : k < pn
        · have g2 : decide (k < pn) = true := decide_eq_true hk1
          have g2' : decide ((k : Int) < (pn : Int)) = true := decide_eq_true (by omega)
          have wk : IntKind.i64.wrap ((k : Int) + 1) = (k : Int) + 1 := IntWalk.i64_in _ (by omega)
          have k0 : (0 : Int) ≤ (k : Int) := by omega
          have k1 : (k : Int) < (pn : Int) := by omega
          obtain ⟨p, hp⟩ : ∃ p, L[k]? = some p := ⟨_, List.getElem?_eq_getElem (by have := HLN.out.2.1; omega)⟩
          have HVT := Lib.hid (vs_take hp)
          have HIT := Lib.hid (imL_take (E := E) hp)
          obtain ⟨cn, hcn⟩ : ∃ x, (imL E (L.take k)).length = x := ⟨_, rfl⟩
          obtain ⟨xb, hxb⟩ : ∃ x, (L.take k).flatMap Pz.vs = x := ⟨_, rfl⟩
          obtain ⟨xc, hxc⟩ : ∃ x, (imL E (L.take k)).flatMap imV = x := ⟨_, rfl⟩
          rw [hcn, hxb, hxc] at hof
          have hcnb : cn ≤ 30 := by
            rw [← hcn]
            have h1 : (imL E (L.take k)).length ≤ (L.take k).length := List.length_filterMap_le _ _
            have h2 : (L.take k).length ≤ k := by simp; omega
            omega
          have HEQ := Lib.hid (And.intro hcn (And.intro hxb hxc))
          obtain ⟨bv', bc, hbe, -, -, -⟩ := hof.ob.shape
          subst hbe
          obtain ⟨cv', cc, hce, -, -, -⟩ := hof.oc.shape
          subst hce
          obtain ⟨WR, hWR⟩ : ∃ WR, WR = wr.drew := ⟨_, rfl⟩
          have kR : Kept (fun _ => False) wr WR := by rw [hWR]; exact (Kept.refl _ _).drew
          have hofR := hof.up kR
          obtain ⟨bb, off, rfl, hbB, hcs⟩ := (HSC.out WR hofR.k).2.1.2.resolve_left (by omega)
          have HCS := Lib.hid (fun (x : World) (kk : Kept (fun _ => False) V x) => show PzAt x bb (off + k * 14) p from by
            obtain ⟨b2, off2, he2, -, h2⟩ := (HSC.out x kk).2.1.2.resolve_left (by omega)
            cases he2
            exact h2 k p hp)
          obtain ⟨pim, pid, palt, pline, pcol, prows, pcols, px, py, pw, ph, pdx, pdy, pz⟩ := p
          obtain ⟨y0, y1, y2, y3, y4, y5, y6, y7, y8, y9, y10, y11, y12, y13⟩ := (HCS.out WR hofR.k).cells
          simp only at y0 y1 y2 y3 y4 y5 y6 y7 y8 y9 y10 y11 y12 y13
          obtain ⟨-, -, -, -, -, x5, x6, -⟩ := blk11 (HBK.out WR hofR.k).1
          obtain ⟨-, -, -, -, -, x5w, -⟩ := blk11 (HBK.out wr hof.k).1
          have hsR := hofR.s
          rw [HS0.out] at hsR
          obtain ⟨-, -, -, -, -, s5, -⟩ := blk11 hsR
          have X1 := cell_regrown x5
          have X3 := cell_regrown s5
          have Y0 := cell_regrown y0
          have Y1 := cell_regrown y1
          have Y2 := cell_regrown y2
          have Y3 := cell_regrown y3
          have Y4 := cell_regrown y4
          have Y5 := cell_regrown y5
          have Y6 := cell_regrown y6
          have Y7 := cell_regrown y7
          have Y8 := cell_regrown y8
          have Y9 := cell_regrown y9
          have Y10 := cell_regrown y10
          have Y11 := cell_regrown y11
          have Y12 := cell_regrown y12
          have Y13 := cell_regrown y13
          obtain ⟨R7, hR7⟩ : ∃ R : Value → World → Prop, R = fun v w' => v = .agg #[.int .i64 pim, .int .i64 pid, .bool palt, .int .i64 pline, .int .i64 pcol, .int .i64 prows, .int .i64 pcols, .int .i64 px, .int .i64 py, .int .i64 pw, .int .i64 ph, .int .i64 pdx, .int .i64 pdy, .int .i64 pz] := ⟨_, rfl⟩
          obtain ⟨R8, hR8⟩ : ∃ R : Value → World → Prop, R = fun v w' => ∃ b, v = .slice (some ⟨b, 0, none⟩) 1 1 ∧ w'.heap[b]? = some (.cells #[.int .i64 pim, .int .i64 pid, .bool palt, .int .i64 pline, .int .i64 pcol, .int .i64 prows, .int .i64 pcols, .int .i64 px, .int .i64 py, .int .i64 pw, .int .i64 ph, .int .i64 pdx, .int .i64 pdy, .int .i64 pz] 51 (0, 0)) := ⟨_, rfl⟩
          have HR7 := Lib.hid hR7
          have HR8 := Lib.hid hR8
          have HWR := Lib.hid hWR
          have HOFR := Lib.hid hofR
          have HO17 := Lib.hid (fun (x : World) => show Calls Try.prog 17 #[.agg #[.int .i64 pim, .int .i64 pid, .bool palt, .int .i64 pline, .int .i64 pcol, .int .i64 prows, .int .i64 pcols, .int .i64 px, .int .i64 py, .int .i64 pw, .int .i64 ph, .int .i64 pdx, .int .i64 pdy, .int .i64 pz]] x fun e w' => e = .returned (.agg #[.int .i64 pim, .int .i64 pid, .bool palt, .int .i64 pline, .int .i64 pcol, .int .i64 prows, .int .i64 pcols, .int .i64 px, .int .i64 py, .int .i64 pw, .int .i64 ph, .int .i64 pdx, .int .i64 pdy, .int .i64 pz]) ∧ Kept (fun _ => False) x w' from of17_any ⟨pim, pid, palt, pline, pcol, prows, pcols, px, py, pw, ph, pdx, pdy, pz⟩ x)
          obtain ⟨ti, hi, hz, hsz, hby⟩ := info_parts info51
          have HI := Lib.hid (And.intro hi (And.intro hz (And.intro hsz hby)))
          clear hi hz hsz hby hR7 hR8 hWR hof kR hofR hcs hp hcn hxb hxc x5 x6 s5 hsR y0 y1 y2 y3 y4 y5 y6 y7 y8 y9 y10 y11 y12 y13
          go_wp2
          refine wp_region_grow #[0, 1, 0, 4, 0, 28, 60, 124, 252, 511, 1023, 2047] 9 [] (fun i => if i = 7 then some R7 else if i = 8 then some R8 else none) (by kernel_rfl) rfl (by kernel_rfl) (fun i hi => by cases hi) (fun _ _ _ _ _ h => h) ?_
          rintro _ rfl
          rw [← HWR.out]
          simp only [List.take_succ_cons, List.take_zero, List.drop_succ_cons, List.drop_zero, number, Nat.reduceAdd]
          iterate 7 (refine wpGrow_step (fun K hK => ?_); go_simp; refine hK _ _ ?_; clear hK K)
          refine wpGrow_step (fun K hK => ?_)
          go_simp
          refine ⟨fun w' hg => (HO17.out w').mono (fun e9 w'' ⟨he, hk⟩ => ⟨_, he, hk, by rw [HR7.out]⟩), fun v7 w7 hv7 _ => ?_⟩
          rw [HR7.out] at hv7
          subst hv7
          refine hK _ _ ?_; clear hK K
          refine wpGrow_step (fun K hK => ?_)
          go_simp
          refine ⟨fun w' hg => ⟨(Kept.refl _ _).alloc _, ?_⟩, fun v8 w8 hv8 _ => ?_⟩
          · rw [HR8.out]
            exact ⟨w'.heap.size, rfl, blk_new _ _⟩
          rw [HR8.out] at hv8
          obtain ⟨lb, rfl, hb8⟩ := hv8
          have HB8 := Lib.hid hb8
          clear hb8
          refine hK _ _ ?_; clear hK K
          refine wpGrow_nil ?_
          intro w10 hk10 hω
          have hk8 : Kept (fun _ => False) w8 w10 := hω 8
          have hb10 := hk8.blk HB8.out id
          have HSB := Lib.hid (fun (w' : World) (hk : Kept (fun q => (Value.slice bv' k bc).ownBlock = some q) w10 w') => show w'.cell? ⟨V.heap.size, 5, none⟩ = some (.slice bv' k bc) ∧ w'.frozen? ⟨V.heap.size, 5, none⟩ = false from by
            have hb := hk.blk (hk10.blk HOFR.out.s id) (fun h => Nat.lt_irrefl _ (HOFR.out.lb _ h))
            rw [HS0.out] at hb
            exact ⟨blk_cell hb 5, blk_free hb 5⟩)
          have HV1 := Lib.hid (And.intro (HOFR.out.ob.kept hk10 (fun _ _ => id)) (And.intro hb10 hk10))
          clear hω hk10 hk8 hb10 X1 X3 x5w Y0 Y1 Y2 Y3 Y4 Y5 Y6 Y7 Y8 Y9 Y10 Y11 Y12 Y13
          go_wp2_with (at_builtin; refine wpList_appF rfl (.tmp 50) (.tmp 57) 39 rfl 51 ti _ 14 112 Try.underlying39 HI.out.1 HI.out.2.1 HI.out.2.2.1 HI.out.2.2.2 rfl (by omega) (.slice bv' k bc) k xb rfl HV1.out.1 lb [.int .i64 pim, .int .i64 pid, .bool palt, .int .i64 pline, .int .i64 pcol, .int .i64 prows, .int .i64 pcols, .int .i64 px, .int .i64 py, .int .i64 pw, .int .i64 ph, .int .i64 pdx, .int .i64 pdy, .int .i64 pz] rfl rfl HV1.out.2.1 (by simp only [List.mem_cons, List.not_mem_nil, or_false]; rintro u (rfl | rfl | rfl | rfl | rfl | rfl | rfl | rfl | rfl | rfl | rfl | rfl | rfl | rfl) <;> rfl) (by omega) (by omega) ?_; intro v9 w9 ho9 hk9 hpr9; obtain ⟨va, vc, hve, -, -, -⟩ := ho9.shape; subst hve; obtain ⟨p5, p5'⟩ := HSB.out w9 hk9; have H9 := Lib.hid (And.intro ho9 (And.intro hk9 hpr9)); obtain ⟨U, hU⟩ : ∃ U, w9.setCell ⟨V.heap.size, 5, none⟩ (.slice va (k + 1) vc) = U := ⟨_, rfl⟩; clear ho9 hk9 hpr9)
          have HOF2 := Lib.hid (show OfI V S0 av (.slice va (k + 1) vc) (.slice cv' cn cc) i (k + 1) cn xa (xb ++ [.int .i64 pim, .int .i64 pid, .bool palt, .int .i64 pline, .int .i64 pcol, .int .i64 prows, .int .i64 pcols, .int .i64 px, .int .i64 py, .int .i64 pw, .int .i64 ph, .int .i64 pdx, .int .i64 pdy, .int .i64 pz]) xc U from by
            rw [← hU]
            exact HOFR.out.appB (fun u => by rw [HS0.out]; rfl) HV1.out.2.2 H9.out.1 H9.out.2.1 H9.out.2.2)
          obtain ⟨WT, hWT⟩ : ∃ X, X = U.drew := ⟨_, rfl⟩
          have hofT := HOF2.out.up (show Kept (fun _ => False) U WT by rw [hWT]; exact (Kept.refl _ _).drew)
          obtain ⟨y0, -⟩ := (HCS.out WT hofT.k).cells
          simp only at y0
          obtain ⟨-, -, -, -, -, x5, x6, -⟩ := blk11 (HBK.out WT hofT.k).1
          have X5 := cell_regrown x5
          have X6 := cell_regrown x6
          have Y0 := cell_regrown y0
          obtain ⟨RA, hRA⟩ : ∃ R : Value → World → Prop, R = fun v w' => ∃ q, v = .pointer (some ⟨q, 0, none⟩) ∧ WT.heap.size ≤ q ∧ w'.heap[q]? = some (.cells #[.int .i64 0, .int .i64 0, .slice none 0 0] 31 (0, 0)) := ⟨_, rfl⟩
          have HRA := Lib.hid hRA
          have HWT := Lib.hid hWT
          have HOT := Lib.hid hofT
          clear hU p5 p5' hRA hWT hofT y0 x5 x6
          try simp only at HIT
          cases hlk : lookM E pim with
          | none =>
            have HLK := Lib.hid (fun (x : World) (kk : Kept (fun _ => False) V x) => look_no (HSC.out x kk).2.2 hlk)
            have hI := HIT.out
            rw [hlk] at hI
            simp only [Option.map_none, Option.toList_none, List.append_nil] at hI
            have HI2 := Lib.hid hI
            clear hI hlk HIT
            obtain ⟨RL, hRL⟩ : ∃ R : Value → World → Prop, R = fun v w' => v = .tuple #[.agg #[.int .i64 0, .int .i64 0, .slice none 0 0], .bool false] := ⟨_, rfl⟩
            have HRL := Lib.hid hRL
            clear hRL
            refine wp_region_grow #[0, 1, 0, 4, 0, 28, 60, 124, 255, 511, 1023, 1023, 0, 6143, 16383] 13 [11] (fun i => if i = 8 then some RL else if i = 12 then some RA else none) (by kernel_rfl) rfl (by kernel_rfl) (fun i hi => by simp at hi; subst hi; rfl) (fun _ _ _ _ _ h => h) ?_
            rintro _ rfl
            rw [← HWT.out]
            simp only [List.take_succ_cons, List.take_zero, List.drop_succ_cons, List.drop_zero, number, Nat.reduceAdd]
            iterate 8 (refine wpGrow_step (fun K hK => ?_); go_simp; refine hK _ _ ?_; clear hK K)
            refine wpGrow_step (fun K hK => ?_)
            go_simp
            refine ⟨fun w' hg => (by rw [HLK.out w' (HOT.out.k.then hg.old)]; exact ⟨Kept.refl _ _, by rw [HRL.out]⟩), fun v8 w8 hv8 _ => ?_⟩
            rw [HRL.out] at hv8
            subst hv8
            refine hK _ _ ?_; clear hK K
            iterate 3 (refine wpGrow_step (fun K hK => ?_); go_simp; refine hK _ _ ?_; clear hK K)
            refine wpGrow_step (fun K hK => ?_)
            go_simp
            refine ⟨fun w' hg => ⟨(Kept.refl _ _).alloc _, by rw [HRA.out]; exact ⟨w'.heap.size, rfl, hg.old.size, blk_new _ _⟩⟩, fun v12 w12 hv12 _ => ?_⟩
            rw [HRA.out] at hv12
            obtain ⟨q, rfl, hqs, hbq⟩ := hv12
            have HQ := Lib.hid (And.intro hqs hbq)
            clear hqs hbq
            refine hK _ _ ?_; clear hK K
            refine wpGrow_nil ?_
            intro w13 hk13 hω
            have hk12 : Kept (fun _ => False) w12 w13 := hω 12
            obtain ⟨U1, U2, U3, e1, e2, e3, ⟨z0, z0'⟩, ⟨z1, z1'⟩, ⟨z2, z2'⟩, bU, kU⟩ := store3 (hk12.blk HQ.out.2 id) (.int .i64 0) (.int .i64 0) (.slice none 0 0)
            have HU := Lib.hid (And.intro (HOT.out.up (hk13.trans (kU.mono fun i _ hi => Or.inr (by have h9 : i = q := hi; have := HQ.out.1; omega)))) bU)
            clear hω hk13 hk12 bU kU X5 X6 Y0
            go_wp2
            have HFIN := Lib.hid (show OfI V S0 av (.slice va (k + 1) vc) (.slice cv' cn cc) i (k + 1) (imL E (L.take (k + 1))).length xa ((L.take (k + 1)).flatMap Pz.vs) ((imL E (L.take (k + 1))).flatMap imV) U3 from by
              rw [HI2.out, HEQ.out.1, HEQ.out.2.2, HVT.out, HEQ.out.2.1]
              exact HU.out.1)
            go_roundg (gk - 1)
            case rel => exact ⟨k + 1, _, _, by omega, by omega, by go_num, HFIN.out⟩
            case measure => omega
          | some m =>
            have HMM := Lib.hid (lookM_mem hlk).1
            have HLK := Lib.hid (fun (x : World) (kk : Kept (fun _ => False) V x) => look_yes (HSC.out x kk).2.2 hlk)
            have hI := HIT.out
            rw [hlk] at hI
            simp only [Option.map_some, Option.toList_some] at hI
            have HI2 := Lib.hid hI
            clear hI hlk HIT
            obtain ⟨mk, mx, my, ma, mn, mc, mp, born⟩ := m
            unfold ME.val at HLK
            simp only at HLK
            obtain ⟨RL, hRL⟩ : ∃ R : Value → World → Prop, R = fun v w' => v = .tuple #[.agg #[.int .i64 mx, .int .i64 my, .slice ma mn mc], .bool true] := ⟨_, rfl⟩
            have HRL := Lib.hid hRL
            clear hRL
            refine wp_region_grow #[0, 1, 0, 4, 0, 28, 60, 124, 255, 511, 1023, 1023, 0, 6143, 16383] 13 [11] (fun i => if i = 8 then some RL else if i = 12 then some RA else none) (by kernel_rfl) rfl (by kernel_rfl) (fun i hi => by simp at hi; subst hi; rfl) (fun _ _ _ _ _ h => h) ?_
            rintro _ rfl
            rw [← HWT.out]
            simp only [List.take_succ_cons, List.take_zero, List.drop_succ_cons, List.drop_zero, number, Nat.reduceAdd]
            iterate 8 (refine wpGrow_step (fun K hK => ?_); go_simp; refine hK _ _ ?_; clear hK K)
            refine wpGrow_step (fun K hK => ?_)
            go_simp
            refine ⟨fun w' hg => (by rw [HLK.out w' (HOT.out.k.then hg.old)]; exact ⟨Kept.refl _ _, by rw [HRL.out]⟩), fun v8 w8 hv8 _ => ?_⟩
            rw [HRL.out] at hv8
            subst hv8
            refine hK _ _ ?_; clear hK K
            iterate 3 (refine wpGrow_step (fun K hK => ?_); go_simp; refine hK _ _ ?_; clear hK K)
            refine wpGrow_step (fun K hK => ?_)
            go_simp
            refine ⟨fun w' hg => ⟨(Kept.refl _ _).alloc _, by rw [HRA.out]; exact ⟨w'.heap.size, rfl, hg.old.size, blk_new _ _⟩⟩, fun v12 w12 hv12 _ => ?_⟩
            rw [HRA.out] at hv12
            obtain ⟨q, rfl, hqs, hbq⟩ := hv12
            have HQ := Lib.hid (And.intro hqs hbq)
            clear hqs hbq
            refine hK _ _ ?_; clear hK K
            refine wpGrow_nil ?_
            intro w13 hk13 hω
            have hk12 : Kept (fun _ => False) w12 w13 := hω 12
            obtain ⟨U1, U2, U3, e1, e2, e3, ⟨z0, z0'⟩, ⟨z1, z1'⟩, ⟨z2, z2'⟩, bU, kU⟩ := store3 (hk12.blk HQ.out.2 id) (.int .i64 mx) (.int .i64 my) (.slice ma mn mc)
            have HU := Lib.hid (And.intro (HOT.out.up (hk13.trans (kU.mono fun i _ hi => Or.inr (by have h9 : i = q := hi; have := HQ.out.1; omega)))) bU)
            clear hω hk13 hk12 bU kU X5 X6 Y0
            obtain ⟨WS, hWS⟩ : ∃ X, X = U3.drew := ⟨_, rfl⟩
            have kS9 : Kept (fun _ => False) U3 WS := by rw [hWS]; exact (Kept.refl _ _).drew
            have hofS := HU.out.1.up kS9
            obtain ⟨⟨d0, -⟩, ⟨d1, -⟩, d2, -⟩ := blk3 (kS9.blk HU.out.2 id)
            obtain ⟨y0, -⟩ := (HCS.out WS hofS.k).cells
            simp only at y0
            obtain ⟨-, -, -, -, -, x5, -⟩ := blk11 (HBK.out WS hofS.k).1
            have hsS := hofS.s
            rw [HS0.out] at hsS
            obtain ⟨-, -, -, -, -, -, s6, -⟩ := blk11 hsS
            have X5 := cell_regrown x5
            have X6 := cell_regrown s6
            have Y0 := cell_regrown y0
            have D0 := cell_regrown d0
            have D1 := cell_regrown d1
            have D2 := cell_regrown d2
            obtain ⟨R9, hR9⟩ : ∃ R : Value → World → Prop, R = fun v w' => v = .agg #[.int .i64 mx, .int .i64 my, .slice ma mn mc] := ⟨_, rfl⟩
            obtain ⟨RB, hRB⟩ : ∃ R : Value → World → Prop, R = fun v w' => ∃ b, v = .slice (some ⟨b, 0, none⟩) 1 1 ∧ w'.heap[b]? = some (.cells #[.int .i64 pim, .int .i64 mx, .int .i64 my, .slice ma mn mc] 108 (0, 0)) := ⟨_, rfl⟩
            have HR9 := Lib.hid hR9
            have HRB := Lib.hid hRB
            have HWS := Lib.hid hWS
            have HOS := Lib.hid hofS
            have HO22 := Lib.hid (fun (x : World) => of_any mx my ma mn mc x)
            obtain ⟨tj, hi, hz, hsz, hby⟩ := info_parts info108
            have HJ := Lib.hid (And.intro hi (And.intro hz (And.intro hsz hby)))
            clear hi hz hsz hby hR9 hRB hWS hofS kS9 d0 d1 d2 y0 x5 s6 hsS
            go_wp2
            clear z0 z0' z1 z1' z2 z2' e1 e2 e3
            refine wp_region_grow #[0, 1, 0, 4, 0, 28, 60, 124, 0, 256, 1020, 2044, 4095, 8191, 16383] 12 [] (fun i => if i = 9 then some R9 else if i = 11 then some RB else none) (by kernel_rfl) rfl (by kernel_rfl) (fun i hi => by cases hi) (fun _ _ _ _ _ h => h) ?_
            rintro _ rfl
            rw [← HWS.out]
            simp only [List.take_succ_cons, List.take_zero, List.drop_succ_cons, List.drop_zero, number, Nat.reduceAdd]
            iterate 9 (refine wpGrow_step (fun K hK => ?_); go_simp; refine hK _ _ ?_; clear hK K)
            refine wpGrow_step (fun K hK => ?_)
            go_simp
            refine ⟨fun w' hg => (HO22.out w').mono (fun e9 w'' ⟨he, hk⟩ => ⟨_, he, hk, by rw [HR9.out]⟩), fun v9 w19 hv9 _ => ?_⟩
            rw [HR9.out] at hv9
            subst hv9
            refine hK _ _ ?_; clear hK K
            refine wpGrow_step (fun K hK => ?_)
            go_simp
            refine hK _ _ ?_; clear hK K
            refine wpGrow_step (fun K hK => ?_)
            go_simp
            refine ⟨fun w' hg => ⟨(Kept.refl _ _).alloc _, ?_⟩, fun v11 w11 hv11 _ => ?_⟩
            · rw [HRB.out]
              exact ⟨w'.heap.size, rfl, blk_new _ _⟩
            rw [HRB.out] at hv11
            obtain ⟨lb2, rfl, hb11⟩ := hv11
            have HB11 := Lib.hid hb11
            clear hb11
            refine hK _ _ ?_; clear hK K
            refine wpGrow_nil ?_
            intro w20 hk20 hω
            have hk11 : Kept (fun _ => False) w11 w20 := hω 11
            have hb20 := hk11.blk HB11.out id
            have HSB2 := Lib.hid (fun (w' : World) (hk : Kept (fun q => (Value.slice cv' cn cc).ownBlock = some q) w20 w') => show w'.cell? ⟨V.heap.size, 6, none⟩ = some (.slice cv' cn cc) ∧ w'.frozen? ⟨V.heap.size, 6, none⟩ = false from by
              have hb := hk.blk (hk20.blk HOS.out.s id) (fun h => Nat.lt_irrefl _ (HOS.out.lc _ h))
              rw [HS0.out] at hb
              exact ⟨blk_cell hb 6, blk_free hb 6⟩)
            have HV2 := Lib.hid (And.intro (HOS.out.oc.kept hk20 (fun _ _ => id)) (And.intro hb20 hk20))
            clear hω hk20 hk11 hb20 X5 X6 Y0 D0 D1 D2
            go_wp2_with (at_builtin; refine wpList_appF rfl (.tmp 74) (.tmp 84) 40 rfl 108 tj _ 4 48 Try.underlying40 HJ.out.1 HJ.out.2.1 HJ.out.2.2.1 HJ.out.2.2.2 rfl (by omega) (.slice cv' cn cc) cn xc rfl HV2.out.1 lb2 [.int .i64 pim, .int .i64 mx, .int .i64 my, .slice ma mn mc] rfl rfl HV2.out.2.1 (by simp only [List.mem_cons, List.not_mem_nil, or_false]; rintro u (rfl | rfl | rfl | rfl) <;> rfl) (by omega) (by omega) ?_; intro v21 w21 ho21 hk21 hpr21; obtain ⟨vb, vd, hve, -, -, -⟩ := ho21.shape; subst hve; obtain ⟨p6, p6'⟩ := HSB2.out w21 hk21; have H21 := Lib.hid (And.intro ho21 (And.intro hk21 hpr21)); obtain ⟨Z, hZ⟩ : ∃ Z, w21.setCell ⟨V.heap.size, 6, none⟩ (.slice vb (cn + 1) vd) = Z := ⟨_, rfl⟩; clear ho21 hk21 hpr21)
            have HFIN := Lib.hid (show OfI V S0 av (.slice va (k + 1) vc) (.slice vb (cn + 1) vd) i (k + 1) (imL E (L.take (k + 1))).length xa ((L.take (k + 1)).flatMap Pz.vs) ((imL E (L.take (k + 1))).flatMap imV) Z from by
              rw [HI2.out, List.length_append, List.flatMap_append, HEQ.out.1, HEQ.out.2.2, HVT.out, HEQ.out.2.1, ← hZ]
              exact HOS.out.appC (fun u => by rw [HS0.out]; rfl) HV2.out.2.2 H21.out.1 H21.out.2.1 H21.out.2.2)
            go_roundg (gk - 1)
            case rel => exact ⟨k + 1, _, _, by omega, by omega, by go_num, HFIN.out⟩
            case measure => omega
        · obtain rfl : k = pn := by omega
          have g2 : decide (k < k) = false := decide_eq_false (by omega)
          have hLt : L.take k = L := List.take_of_length_le (by have := HLN.out.2.1; omega)
          rw [hLt] at hof
          obtain ⟨cn, hcn⟩ : ∃ x, (imL E L).length = x := ⟨_, rfl⟩
          rw [hcn] at hof
          have HCN := Lib.hid hcn
          obtain ⟨a1, c1, hae, -, -, -⟩ := hof.oa.shape
          obtain ⟨a2, c2, hbe, -, -, -⟩ := hof.ob.shape
          obtain ⟨a3, c3, hce, -, -, -⟩ := hof.oc.shape
          subst hae hbe hce
          obtain ⟨-, -, -, -, -, x5, -⟩ := blk11 (HBK.out wr hof.k).1
          have hsW := hof.s
          rw [HS0.out] at hsW
          obtain ⟨m0, m1, m2, m3, m4, m5, m6, m7, m8, m9, m10⟩ := blk11 hsW
          obtain ⟨V1, V2, V3, V4, V5, V6, V7, V8, V9, V10, V11, e1, e2, e3, e4, e5, e6, e7, e8, e9, e10, e11, ⟨f0, f0'⟩, ⟨f1, f1'⟩, ⟨f2, f2'⟩, ⟨f3, f3'⟩, ⟨f4, f4'⟩, ⟨f5, f5'⟩, ⟨f6, f6'⟩, ⟨f7, f7'⟩, ⟨f8, f8'⟩, ⟨f9, f9'⟩, ⟨f10, f10'⟩, bE, kE⟩ := store11 (HBK.out wr hof.k).2 (.int .i64 rows) (.int .i64 cols) (.int .i64 cw) (.int .i64 ch) (.slice a1 i c1) (.slice a2 k c2) (.slice a3 cn c3) (.int .i64 top) (.bool cur) (.int .i64 row) (.int .i64 col)
          have zV := HLN.out.2.2.2.2.2.1
          have kF : Kept (fun _ => False) w V11 := ((HLN.out.2.2.2.2.2.2).then hof.k).trans (kE.mono fun x _ hx => Or.inr (by have h9 : x = w.heap.size + 1 := hx; omega))
          have HEND := Lib.hid (show Kept (fun _ => False) w V11 ∧ LinesAt V11.heap.size V11 a1 i ls ∧ PzsAt V11.heap.size V11 a2 k L ∧ ImsAt V11.heap.size V11 a3 cn (imL E L) from by
            refine ⟨kF, ?_, ?_, ?_⟩
            · exact (hof.oa.kept kE (fun b hb hS => by have h9 : b = w.heap.size + 1 := hS; have := hof.la b hb; omega)).lines HLP.out HLN.out.1 kF HLN.out.2.2.2.2.1
            · exact (hof.ob.kept kE (fun b hb hS => by have h9 : b = w.heap.size + 1 := hS; have := hof.lb b hb; omega)).places HLN.out.2.1
            · exact (hof.oc.kept kE (fun b hb hS => by have h9 : b = w.heap.size + 1 := hS; have := hof.lc b hb; omega)).ims hcn (fun q hq => HEM.out q hq) kF HLN.out.2.2.2.2.1)
          obtain ⟨u0, u1, u2, u3, u4, u5, u6, u7, u8, u9, u10⟩ := blk11 bE
          clear hof hsW bE kE kF zV hLt hcn
          go_wp2
          exact bodyPost_ret (v := .agg #[.int .i64 rows, .int .i64 cols, .int .i64 cw, .int .i64 ch, .slice a1 i c1, .slice a2 k c2, .slice a3 cn c3, .int .i64 top, .bool cur, .int .i64 row, .int .i64 col]) (by simp [results, Try.results13, go_sem, u0, u1, u2, u3, u4, u5, u6, u7, u8, u9, u10]) rfl ⟨a1, a2, a3, c1, c2, c3, by rw [HCN.out], by rw [HCN.out]; exact HEND.out⟩
end Go.Proofs.Ytdjgmhbfohbenaa
