/- The law PaintScenes. -/
import Derived.Test.YtdjgmhbfohbenaaOfD
import Derived.Test.YtdjgmhbfohbenaaPlnS
namespace Go.Proofs.Ytdjgmhbfohbenaa
open Go.RowKit Go.Sort Pl
set_option linter.unusedVariables false
set_option linter.unusedSimpArgs false
attribute [local go_sem] growOp growUpon sameUpon
theorem same_self (m : Mx) : sameM m m = true := decide_eq_true ⟨rfl, rfl, rfl⟩
set_option maxRecDepth 100000 in
set_option maxHeartbeats 16000000 in
theorem scns_go (rows cols cw ch : Int) (la : Option Addr) (ln lc : Nat) (pa : Option Addr) (pn pc : Nat) (im : Option Nat) (top : Int) (cur : Bool) (row col : Int) (ls : List (List Cl)) (E : List ME) (L : List Pz) (W : World) (h : SceneIn W rows cols cw ch la ln pa pn im top row col ls E L) (hln : ln * 24 ≤ 140737488355328) :
    Calls Try.prog 3 #[.agg #[.int .i64 rows, .int .i64 cols, .int .i64 cw, .int .i64 ch, .slice la ln lc, .slice pa pn pc, .map im, .int .i64 top, .bool cur, .int .i64 row, .int .i64 col]] W fun e w' => e = .returned (.bool true) ∧ Below W.heap.size W w' := by
  obtain ⟨V, hV⟩ : ∃ V, W.alloc (.cells #[.int .i64 rows, .int .i64 cols, .int .i64 cw, .int .i64 ch, .slice la ln lc, .slice pa pn pc, .map im, .int .i64 top, .bool cur, .int .i64 row, .int .i64 col] 26) = V := ⟨_, rfl⟩
  have kV : Kept (fun _ => False) W V := by rw [← hV]; exact (Kept.refl _ _).alloc _
  have b0 : V.heap[W.heap.size]? = some (.cells #[.int .i64 rows, .int .i64 cols, .int .i64 cw, .int .i64 ch, .slice la ln lc, .slice pa pn pc, .map im, .int .i64 top, .bool cur, .int .i64 row, .int .i64 col] 26 (0, 0)) := by rw [← hV]; exact blk_new _ _
  have HV := Lib.hid (And.intro kV b0)
  have HS := Lib.hid (fun (w : World) (k : Kept (fun _ => False) W w) => show SceneAt w.heap.size w la ln pa pn im ls E L from (SceneAt.mk h.lines h.places h.images).up k (fun _ h => h.elim) k.size)
  have HIN := Lib.hid h
  obtain ⟨ik, hik⟩ : ∃ x, (imL E L).length = x := ⟨_, rfl⟩
  have HFW := Lib.hid (fun (w : World) (k : Kept (fun _ => False) W w) => show Calls Try.prog 10 #[.agg #[.int .i64 rows, .int .i64 cols, .int .i64 cw, .int .i64 ch, .slice la ln lc, .slice pa pn pc, .map im, .int .i64 top, .bool cur, .int .i64 row, .int .i64 col]] w (FewR (FewP rows cols cw ch E L top) w) from fewS_any rows cols cw ch la ln lc pa pn pc im top cur row col ls E L w h.ln h.pn (HS.out w k).lines (HS.out w k).places (HS.out w k).images)
  have HOFS := Lib.hid (fun (hp : pn ≤ 30) (w : World) (k : Kept (fun _ => False) W w) => show Calls Try.prog 13 #[.agg #[.int .i64 rows, .int .i64 cols, .int .i64 cw, .int .i64 ch, .slice la ln lc, .slice pa pn pc, .map im, .int .i64 top, .bool cur, .int .i64 row, .int .i64 col]] w fun e w' => ∃ (a b c : Option Addr) (ca cb cc : Nat), e = .returned (.agg #[.int .i64 rows, .int .i64 cols, .int .i64 cw, .int .i64 ch, .slice a ln ca, .slice b pn cb, .slice c ik cc, .int .i64 top, .bool cur, .int .i64 row, .int .i64 col]) ∧ Kept (fun _ => False) w w' ∧ LinesAt w'.heap.size w' a ln ls ∧ PzsAt w'.heap.size w' b pn L ∧ ImsAt w'.heap.size w' c ik (imL E L) from by
    have h9 := ofs_any w.heap.size rows cols cw ch top cur row col la ln lc pa pn pc im ls E L w (HS.out w k) (Nat.le_refl _) hln hp
    rw [hik] at h9
    exact h9)
  have HIK := Lib.hid hik
  clear kV b0 h hik hln
  go_enter Try.func3, Try.ntmps3
  go_wp2_with fail
  refine (known_any _).mono ?_
  rintro e w1 ⟨rfl, hk1⟩
  obtain ⟨x0, x1, x2, x3, x4, x5, x6, x7, x8, x9, x10⟩ := blk11 (hk1.blk HV.out.2 id)
  have H1 := Lib.hid (And.intro (HV.out.1.then hk1) (hk1.blk HV.out.2 id))
  clear hk1
  go_wp2_with fail
  refine (HFW.out _ H1.out.1).mono ?_
  rintro e w2 ⟨b, rfl, hb, hk2⟩
  obtain ⟨x0, x1, x2, x3, x4, x5, x6, x7, x8, x9, x10⟩ := blk11 (hk2.blk H1.out.2 id)
  have H2 := Lib.hid (And.intro (H1.out.1.then hk2) (hk2.blk H1.out.2 id))
  clear hk2
  cases b with
  | false =>
    clear hb
    go_wp2
    exact bodyPost_ret (v := .bool true) (by simp [results, Try.results3, go_sem]) rfl ⟨rfl, H2.out.1.below⟩
  | true =>
    have HF := Lib.hid (hb rfl)
    clear hb
    have HPN := Lib.hid (show L.length = pn ∧ pn ≤ 30 from by
      have h1 := (HS.out _ HV.out.1).places.1
      have h2 := HF.out.pn
      omega)
    by_cases hsz : (1 ≤ rows ∧ rows ≤ 1000) ∧ (1 ≤ cols ∧ cols ≤ 1000) ∧ (1 ≤ cw ∧ cw ≤ 64) ∧ (1 ≤ ch ∧ ch ≤ 64)
    rotate_left
    · have HNO := Lib.hid (fun (w : World) => draw_no rows cols cw ch la ln lc pa pn pc im top cur row col w hsz)
      have HRNO := Lib.hid (fun (a b c : Option Addr) (ca cb cc : Nat) (w : World) => rdraw_no rows cols cw ch a ln ca b pn cb c ik cc top cur row col w hsz)
      have HAL := Lib.hid (fun (w : World) => show Calls Try.prog 14 #[.agg #[.int .i64 0, .int .i64 0, .slice none 0 0], .agg #[.int .i64 0, .int .i64 0, .slice none 0 0]] w fun e w' => e = .returned (.bool true) ∧ Kept (fun _ => False) w w' from by
        have h := alike_any ⟨0, 0, []⟩ ⟨0, 0, []⟩ none none 0 0 0 0 w ⟨rfl, .inl rfl⟩ ⟨rfl, .inl rfl⟩ (fun _ h => by cases h) (fun _ h => by cases h)
        rw [same_self] at h
        exact h)
      unfold mat0 mat at HNO HRNO
      clear hsz
      go_wp2_with fail
      refine (HNO.out _).mono ?_
      rintro e w3 ⟨rfl, hk3⟩
      obtain ⟨V4, hV4⟩ : ∃ X, w3.alloc (.cells #[.int .i64 0, .int .i64 0, .slice none 0 0] 31) = X := ⟨_, rfl⟩
      have k4 : Kept (fun _ => False) w3 V4 := by rw [← hV4]; exact (Kept.refl _ _).alloc _
      have e4 : V4.heap[w3.heap.size]? = some (.cells #[.int .i64 0, .int .i64 0, .slice none 0 0] 31 (0, 0)) := by rw [← hV4]; exact blk_new _ _
      obtain ⟨U1, U2, U3, g1, g2, g3, ⟨z0, z0'⟩, ⟨z1, z1'⟩, ⟨z2, z2'⟩, bU, kU⟩ := same3 e4
      have kU' : Kept (fun _ => False) w2 U3 := (hk3.then k4).trans (kU.mono fun x _ hi => Or.inr (by have h9 : x = w3.heap.size := hi; have := hk3.size; omega))
      have H4 := Lib.hid (And.intro (H2.out.1.then kU') (And.intro (kU'.blk H2.out.2 id) bU))
      obtain ⟨x0, x1, x2, x3, x4, x5, x6, x7, x8, x9, x10⟩ := blk11 (kU'.blk H2.out.2 id)
      clear hk3 k4 e4 bU kU kU'
      go_wp2_with fail
      refine (HOFS.out HPN.out.2 _ H4.out.1).mono ?_
      rintro e w5 ⟨a, b, c, ca, cb, cc, rfl, hk5, -, -, -⟩
      have H5 := Lib.hid (And.intro (H4.out.1.then hk5) (And.intro (hk5.blk H4.out.2.1 id) (hk5.blk H4.out.2.2 id)))
      clear hk5
      go_wp2_with fail
      refine (HRNO.out a b c ca cb cc _).mono ?_
      rintro e w6 ⟨rfl, hk6⟩
      obtain ⟨V7, hV7⟩ : ∃ X, w6.alloc (.cells #[.int .i64 0, .int .i64 0, .slice none 0 0] 35) = X := ⟨_, rfl⟩
      have k7 : Kept (fun _ => False) w6 V7 := by rw [← hV7]; exact (Kept.refl _ _).alloc _
      have e7 : V7.heap[w6.heap.size]? = some (.cells #[.int .i64 0, .int .i64 0, .slice none 0 0] 35 (0, 0)) := by rw [← hV7]; exact blk_new _ _
      obtain ⟨T1, T2, T3, t1, t2, t3, ⟨r0, r0'⟩, ⟨r1, r1'⟩, ⟨r2, r2'⟩, bT, kT⟩ := same3 e7
      have kT' : Kept (fun _ => False) w5 T3 := (hk6.then k7).trans (kT.mono fun x _ hi => Or.inr (by have h9 : x = w6.heap.size := hi; have := hk6.size; omega))
      have HT := Lib.hid (H5.out.1.then kT')
      obtain ⟨⟨a0, -⟩, ⟨a1, -⟩, a2, -⟩ := blk3 (kT'.blk H5.out.2.2 id)
      obtain ⟨⟨d0, -⟩, ⟨d1, -⟩, d2, -⟩ := blk3 bT
      clear hk6 k7 e7 bT kT kT'
      go_wp2_with fail
      refine (HAL.out _).mono ?_
      rintro e w8 ⟨rfl, hk8⟩
      have H8 := Lib.hid (HT.out.then hk8)
      clear hk8
      go_wp2
      exact bodyPost_ret (v := .bool true) (by simp [results, Try.results3, go_sem]) rfl ⟨rfl, H8.out.below⟩
    obtain ⟨⟨rN, hrN⟩, ⟨cN, hcN⟩, ⟨wN, hwN⟩, ⟨hN, hhN⟩⟩ : (∃ k : Nat, rows = k) ∧ (∃ k : Nat, cols = k) ∧ (∃ k : Nat, cw = k) ∧ (∃ k : Nat, ch = k) := ⟨⟨rows.toNat, by omega⟩, ⟨cols.toNat, by omega⟩, ⟨cw.toNat, by omega⟩, ⟨ch.toNat, by omega⟩⟩
    subst hrN hcN hwN hhN
    obtain ⟨PW, hPW⟩ : ∃ x, cN * wN = x := ⟨_, rfl⟩
    obtain ⟨PH, hPH⟩ : ∃ x, rN * hN = x := ⟨_, rfl⟩
    obtain ⟨n, hn⟩ : ∃ x, 4 * (PW * PH) = x := ⟨_, rfl⟩
    obtain ⟨hd, hn2, hn0, -⟩ := dim_of (la := la) (ln := ln) (lc := lc) (pa := pa) (pn := pn) (pc := pc) (im := im) (top := top) (row := row) (col := col) (cur := cur) (rows := rN) (cols := cN) (cw := wN) (ch := hN) (by omega) (by omega) (by omega) (by omega) (HF.out.area (by omega) (by omega) (by omega) (by omega) (by omega) (by omega) (by omega) (by omega))
    rw [hPW, hPH, hn] at hn2 hn0
    obtain ⟨PT, hPT⟩ : ∃ x, drawP ⟨rN, cN, wN, hN, la, ln, lc, pa, pn, pc, im, top, cur, row, col⟩ ls (imgsP PW PH n wN hN top E L) PW PH n (List.replicate n 0) = x := ⟨_, rfl⟩
    have HDT := Lib.hid (fun (w : World) (hs : SceneAt w.heap.size w la ln pa pn im ls E L) => show Calls Try.prog 11 #[.agg #[.int .i64 (rN : Int), .int .i64 (cN : Int), .int .i64 (wN : Int), .int .i64 (hN : Int), .slice la ln lc, .slice pa pn pc, .map im, .int .i64 top, .bool cur, .int .i64 row, .int .i64 col]] w fun e w' => ∃ g : Nat, e = .returned (.tuple #[.agg #[.int .i64 PW, .int .i64 PH, .slice (some ⟨g, 0, none⟩) n n], .int .i64 0]) ∧ w.heap.size ≤ g ∧ Own .u8 5 w' (.slice (some ⟨g, 0, none⟩) n n) PT ∧ Kept (fun _ => False) w w' from by
      have h := draw_small rN cN wN hN la ln lc pa pn pc im top cur row col ls E L HF.out HIN.out.pis HIN.out.cells HIN.out.ln HIN.out.pn (by omega) (by omega) (by omega) (by omega) w hs
      rw [hPW, hPH, hn, hPT] at h
      exact h)
    have hcl : ∀ r c, -2147483648 ≤ (cellS ls r c).r ∧ (cellS ls r c).r ≤ 2147483647 := by
      intro r c
      unfold cellS
      cases hr : ls[r]? with
      | none => simp [cl0]
      | some l =>
        simp only [Option.getD_some]
        cases hc : l[c]? with
        | none => simp [cl0]
        | some x => exact HIN.out.cells l (List.mem_of_getElem? hr) x (List.mem_of_getElem? hc)
    have HOK := Lib.hid (HF.out.ok HIN.out.pis trivial)
    have HRD := Lib.hid (fun (a b c : Option Addr) (ca cb cc : Nat) (w : World) (hl : LinesAt w.heap.size w a ln ls) (hp : PzsAt w.heap.size w b pn L) (hi : ImsAt w.heap.size w c ik (imL E L)) => show Calls Try.prog 12 #[.agg #[.int .i64 (rN : Int), .int .i64 (cN : Int), .int .i64 (wN : Int), .int .i64 (hN : Int), .slice a ln ca, .slice b pn cb, .slice c ik cc, .int .i64 top, .bool cur, .int .i64 row, .int .i64 col]] w fun e w' => ∃ g c : Nat, e = .returned (.tuple #[.agg #[.int .i64 PW, .int .i64 PH, .slice (some ⟨g, 0, none⟩) n c], .int .i64 0]) ∧ Own .u8 5 w' (.slice (some ⟨g, 0, none⟩) n c) PT ∧ Kept (fun _ => False) w w' from by
      have hpic := pic_eq rN cN wN hN la a ln lc ca pa b pn pc cb im c ik cc top cur row col ls E L PW PH n (by omega) (by omega) hPW.symm hPH.symm hn.symm
      have h := rdrw_any w.heap.size ⟨rN, cN, wN, hN, a, ln, ca, b, pn, cb, c, ik, cc, top, cur, row, col⟩ ls L (imL E L) PW PH n w hl hp hi HIN.out.ln HIN.out.pn (by show ik ≤ _; rw [← HIK.out]; have h1 : (imL E L).length ≤ L.length := List.length_filterMap_le _ _; have := HPN.out; omega) hcl HOK.out (fun q hq => ⟨(HF.out.mats q.2 (imL_mem hq).1).1, by have := (HF.out.mats q.2 (imL_mem hq).1).2; omega⟩) ⟨HF.out.top0, HF.out.top1⟩ (by show 1 ≤ rN ∧ rN ≤ 1000; omega) (by show 1 ≤ cN ∧ cN ≤ 1000; omega) (by show 1 ≤ wN ∧ wN ≤ 64; omega) (by show 1 ≤ hN ∧ hN ≤ 64; omega) hPW.symm hPH.symm hn.symm (by omega) hn0 (Nat.le_refl _)
      rw [← hpic, hPT] at h
      exact h)
    have HBY := Lib.hid (show IsBytes PT by
      rw [← hPT]
      have hs := HS.out _ HV.out.1
      refine drawP_bytes' _ _ _ _ _ _ _ (fun a P hP => imgs_bytes (fun m hm => (hs.images.mem m hm).by') L P hP) ?_
      intro v hv
      rw [List.eq_of_mem_replicate hv]
      exact ⟨by decide, by decide⟩)
    have HAL := Lib.hid (fun (g1 g2 c : Nat) (w : World) (h1 : SlAt .u8 w (some ⟨g1, 0, none⟩) n PT) (h2 : SlAt .u8 w (some ⟨g2, 0, none⟩) n PT) => show Calls Try.prog 14 #[.agg #[.int .i64 PW, .int .i64 PH, .slice (some ⟨g1, 0, none⟩) n n], .agg #[.int .i64 PW, .int .i64 PH, .slice (some ⟨g2, 0, none⟩) n c]] w fun e w' => e = .returned (.bool true) ∧ Kept (fun _ => False) w w' from by
      have h := alike_any ⟨PW, PH, PT⟩ ⟨PW, PH, PT⟩ (some ⟨g1, 0, none⟩) (some ⟨g2, 0, none⟩) n n n c w h1 h2 HBY.out HBY.out
      rw [same_self] at h
      exact h)
    have HREG := Lib.hid (fun (p : Pz) (hp : p ∈ L) (w : World) => show Calls Try.prog 15 #[.agg #[.int .i64 (rN : Int), .int .i64 (cN : Int), .int .i64 (wN : Int), .int .i64 (hN : Int), .slice la ln lc, .slice pa pn pc, .map im, .int .i64 top, .bool cur, .int .i64 row, .int .i64 col], p.val] w fun e w' => e = .returned (.tuple #[.int .i64 (regP wN hN top p).x, .int .i64 (regP wN hN top p).y, .int .i64 (regP wN hN top p).w, .int .i64 (regP wN hN top p).h]) ∧ Kept (fun _ => False) w w' from
      region_any ⟨rN, cN, wN, hN, la, ln, lc, pa, pn, pc, im, top, cur, row, col⟩ p w (by show 1 ≤ wN ∧ wN ≤ 64; omega) (by show 1 ≤ hN ∧ hN ≤ 64; omega) ⟨HF.out.top0, HF.out.top1⟩ (HOK.out p hp))
    have HRREG := Lib.hid (fun (a b c : Option Addr) (ca cb cc : Nat) (p : Pz) (hp : p ∈ L) (w : World) => show Calls Try.prog 16 #[.agg #[.int .i64 (rN : Int), .int .i64 (cN : Int), .int .i64 (wN : Int), .int .i64 (hN : Int), .slice a ln ca, .slice b pn cb, .slice c ik cc, .int .i64 top, .bool cur, .int .i64 row, .int .i64 col], p.val] w fun e w' => e = .returned (.tuple #[.int .i64 (regP wN hN top p).x, .int .i64 (regP wN hN top p).y, .int .i64 (regP wN hN top p).w, .int .i64 (regP wN hN top p).h]) ∧ Kept (fun _ => False) w w' from
      rregion_any ⟨rN, cN, wN, hN, a, ln, ca, b, pn, cb, c, ik, cc, top, cur, row, col⟩ p w (by show 1 ≤ wN ∧ wN ≤ 64; omega) (by show 1 ≤ hN ∧ hN ≤ 64; omega) ⟨HF.out.top0, HF.out.top1⟩ (HOK.out p hp))
    clear hPW hPH hn hPT hd hn2 hn0 hsz hcl
    go_wp2_with fail
    refine (HDT.out _ (HS.out _ H2.out.1)).mono ?_
    rintro e w3 ⟨gt, rfl, hgt, hot, hk3⟩
    obtain ⟨V4, hV4⟩ : ∃ X, w3.alloc (.cells #[.int .i64 PW, .int .i64 PH, .slice (some ⟨gt, 0, none⟩) n n] 31) = X := ⟨_, rfl⟩
    have k4 : Kept (fun _ => False) w3 V4 := by rw [← hV4]; exact (Kept.refl _ _).alloc _
    have e4 : V4.heap[w3.heap.size]? = some (.cells #[.int .i64 PW, .int .i64 PH, .slice (some ⟨gt, 0, none⟩) n n] 31 (0, 0)) := by rw [← hV4]; exact blk_new _ _
    have k24 := hk3.then k4
    have H4 := Lib.hid (And.intro (H2.out.1.then k24) (And.intro (k24.blk H2.out.2 id) (And.intro e4 (hot.kept k4 (fun _ _ => id)))))
    obtain ⟨x0, x1, x2, x3, x4, x5, x6, x7, x8, x9, x10⟩ := blk11 (k24.blk H2.out.2 id)
    clear hk3 k4 e4 k24 hot hgt
    go_wp2_with fail
    refine (HOFS.out HPN.out.2 _ H4.out.1).mono ?_
    rintro e w5 ⟨a, b, c, ca, cb, cc, rfl, hk5, hl5, hp5, hi5⟩
    have H5 := Lib.hid (And.intro (H4.out.1.then hk5) (And.intro (hk5.blk H4.out.2.1 id) (And.intro (hk5.blk H4.out.2.2.1 id) (And.intro (H4.out.2.2.2.kept hk5 (fun _ _ => id)) (And.intro hl5 (And.intro hp5 hi5))))))
    clear hk5 hl5 hp5 hi5
    go_wp2_with fail
    refine (HRD.out a b c ca cb cc _ H5.out.2.2.2.2.1 H5.out.2.2.2.2.2.1 H5.out.2.2.2.2.2.2).mono ?_
    rintro e w6 ⟨gr, cr, rfl, hor, hk6⟩
    obtain ⟨V7, hV7⟩ : ∃ X, w6.alloc (.cells #[.int .i64 PW, .int .i64 PH, .slice (some ⟨gr, 0, none⟩) n cr] 35) = X := ⟨_, rfl⟩
    have k7 : Kept (fun _ => False) w6 V7 := by rw [← hV7]; exact (Kept.refl _ _).alloc _
    have e7 : V7.heap[w6.heap.size]? = some (.cells #[.int .i64 PW, .int .i64 PH, .slice (some ⟨gr, 0, none⟩) n cr] 35 (0, 0)) := by rw [← hV7]; exact blk_new _ _
    have k57 := hk6.then k7
    have H7 := Lib.hid (And.intro (H5.out.1.then k57) (And.intro (k57.blk H5.out.2.1 id) (And.intro (own_sl (H5.out.2.2.2.1.kept k57 (fun _ _ => id))) (own_sl (hor.kept k7 (fun _ _ => id))))))
    obtain ⟨⟨a0, -⟩, ⟨a1, -⟩, a2, -⟩ := blk3 (k57.blk H5.out.2.2.1 id)
    obtain ⟨⟨d0, -⟩, ⟨d1, -⟩, d2, -⟩ := blk3 e7
    clear hk6 k7 e7 k57 hor
    go_wp2_with fail
    refine (HAL.out gt gr cr _ H7.out.2.2.1 H7.out.2.2.2).mono ?_
    rintro e w8 ⟨rfl, hk8⟩
    have H8 := Lib.hid (And.intro (H7.out.1.then hk8) (hk8.blk H7.out.2.1 id))
    clear hk8
    obtain ⟨x0, x1, x2, x3, x4, x5, x6, x7, x8, x9, x10⟩ := blk11 H8.out.2
    go_wp2
    clear x0 x1 x2 x3 x4 x5 x6 x7 x8 x9 x10 a0 a1 a2 d0 d1 d2
    go_loopg [7, 8, 9, 10, 11, 12, 13, 14, 15] pn (fun gg iv _ _ _ _ _ _ _ _ wr => ∃ i : Nat, pn ≤ gg + i ∧ i ≤ pn ∧ iv = .int .i64 (i : Int) ∧ Kept (fun _ => False) w8 wr)
    case atStart => exact ⟨0, by omega, by omega, rfl, Kept.refl _ _⟩
    case round =>
      obtain ⟨i, hgg, hik, rfl, hk⟩ := hrel
      obtain ⟨-, -, -, -, -, x5w, -⟩ := blk11 (hk.blk H8.out.2 id)
      by_cases hi1 : i < pn
      · have hpn := HPN.out.2
        have g1 : decide (i < pn) = true := decide_eq_true hi1
        have g1' : decide ((i : Int) < (pn : Int)) = true := decide_eq_true (by omega)
        have wi : IntKind.i64.wrap ((i : Int) + 1) = (i : Int) + 1 := IntWalk.i64_in _ (by omega)
        have i0 : (0 : Int) ≤ (i : Int) := by omega
        have i1 : (i : Int) < (pn : Int) := by omega
        obtain ⟨p, hp⟩ : ∃ p, L[i]? = some p := ⟨_, List.getElem?_eq_getElem (by have := HPN.out.1; omega)⟩
        have HM := Lib.hid (List.mem_of_getElem? hp)
        have HHI := Lib.hid (fun (w : World) (k : Kept (fun _ => False) wr w) => And.intro (HS.out w ((H8.out.1.then hk).then k)) (k.blk (hk.blk H8.out.2 id) id))
        obtain ⟨bb, off, rfl, -, -⟩ := (HHI.out wr (Kept.refl _ _)).1.places.2.resolve_left (by omega)
        have HCS := Lib.hid (fun (x : World) (kk : Kept (fun _ => False) wr x) => show PzAt x bb (off + i * 14) p from by
          obtain ⟨b2, off2, he2, -, h2⟩ := (HHI.out x kk).1.places.2.resolve_left (by omega)
          cases he2
          exact h2 i p hp)
        obtain ⟨⟨rx, ry, rw', rh⟩, hRG⟩ : ∃ r, regP wN hN top p = r := ⟨_, rfl⟩
        have HR1 := Lib.hid (HREG.out p HM.out)
        have HR2 := Lib.hid (fun (a b c : Option Addr) (ca cb cc : Nat) => HRREG.out a b c ca cb cc p HM.out)
        rw [hRG] at HR1 HR2
        have HOF := Lib.hid (of17_any p)
        have HMK := Lib.hid (H8.out.1.then hk)
        have HKW := Lib.hid hk
        clear hp hRG hk
        obtain ⟨pim, pid, palt, pline, pcol, prows, pcols, px, py, pw, ph, pdx, pdy, pz⟩ := p
        unfold Pz.val at HR1 HR2 HOF
        simp only at HR1 HR2 HOF
        obtain ⟨WR, hWR⟩ : ∃ WR, WR = wr.drew := ⟨_, rfl⟩
        have kR : Kept (fun _ => False) wr WR := by rw [hWR]; exact (Kept.refl _ _).drew
        obtain ⟨y0, y1, y2, y3, y4, y5, y6, y7, y8, y9, y10, y11, y12, y13⟩ := (HCS.out WR kR).cells
        simp only at y0 y1 y2 y3 y4 y5 y6 y7 y8 y9 y10 y11 y12 y13
        obtain ⟨x0, x1, x2, x3, x4, x5, x6, x7, x8, x9, x10⟩ := blk11 (HHI.out WR kR).2
        have Y0 := cell_regrown y0
        have Y1 := cell_regrown y1
        have Y2 := cell_regrown y2
        have Y3 := cell_regrown y3
        have Y4 := cell_regrown y4
        have Y5 := cell_regrown y5
        have Y6 := cell_regrown y6
        have Y7 := cell_regrown y7
        have Y8 := cell_regrown y8
        have Y9 := cell_regrown y9
        have Y10 := cell_regrown y10
        have Y11 := cell_regrown y11
        have Y12 := cell_regrown y12
        have Y13 := cell_regrown y13
        have X0 := cell_regrown x0
        have X1 := cell_regrown x1
        have X2 := cell_regrown x2
        have X3 := cell_regrown x3
        have X4 := cell_regrown x4
        have X5 := cell_regrown x5
        have X6 := cell_regrown x6
        have X7 := cell_regrown x7
        have X8 := cell_regrown x8
        have X9 := cell_regrown x9
        have X10 := cell_regrown x10
        obtain ⟨R6, hR6⟩ : ∃ R : Value → World → Prop, R = fun v w' => v = .tuple #[.int .i64 rx, .int .i64 ry, .int .i64 rw', .int .i64 rh] := ⟨_, rfl⟩
        have HR6 := Lib.hid hR6
        have HWR := Lib.hid (And.intro hWR kR)
        clear x0 x1 x2 x3 x4 x5 x6 x7 x8 x9 x10 y0 y1 y2 y3 y4 y5 y6 y7 y8 y9 y10 y11 y12 y13 hWR kR hR6
        go_wp2
        refine wp_region_grow #[0, 0, 2, 0, 14, 30, 63, 127, 255, 255, 255, 255, 511, 5119, 14335, 32767] 12 [9, 10, 11] (fun i => if i = 6 then some R6 else none) (by kernel_rfl) rfl (by kernel_rfl) (fun i hi => by simp at hi; rcases hi with rfl | rfl | rfl <;> rfl) (fun _ _ _ _ _ h => h) ?_
        rintro _ rfl
        rw [← HWR.out.1]
        simp only [List.take_succ_cons, List.take_zero, List.drop_succ_cons, List.drop_zero, number, Nat.reduceAdd]
        iterate 6 (refine wpGrow_step (fun K hK => ?_); go_simp; refine hK _ _ ?_; clear hK K)
        refine wpGrow_step (fun K hK => ?_)
        go_simp
        refine ⟨fun w' hg => (HR1.out w').mono (fun e9 w'' ⟨he, hk⟩ => ⟨_, he, hk, by rw [HR6.out]⟩), fun v6 w6' hv6 _ => ?_⟩
        rw [HR6.out] at hv6
        subst hv6
        refine hK _ _ ?_; clear hK K
        iterate 5 (refine wpGrow_step (fun K hK => ?_); go_simp; refine hK _ _ ?_; clear hK K)
        refine wpGrow_nil ?_
        intro w10 hk10 hω
        have HK10 := Lib.hid (HWR.out.2.then hk10)
        clear hω hk10 X0 X1 X2 X3 X4 X5 X6 X7 X8 X9 X10 Y0 Y1 Y2 Y3 Y4 Y5 Y6 Y7 Y8 Y9 Y10 Y11 Y12 Y13 HR6
        obtain ⟨WT, hWT⟩ : ∃ X, X = w10.drew := ⟨_, rfl⟩
        have kT : Kept (fun _ => False) wr WT := HK10.out.then (by rw [hWT]; exact (Kept.refl _ _).drew)
        obtain ⟨y0, y1, y2, y3, y4, y5, y6, y7, y8, y9, y10, y11, y12, y13⟩ := (HCS.out WT kT).cells
        simp only at y0 y1 y2 y3 y4 y5 y6 y7 y8 y9 y10 y11 y12 y13
        obtain ⟨x0, x1, x2, x3, x4, x5, x6, x7, x8, x9, x10⟩ := blk11 (HHI.out WT kT).2
        have Y0 := cell_regrown y0
        have Y1 := cell_regrown y1
        have Y2 := cell_regrown y2
        have Y3 := cell_regrown y3
        have Y4 := cell_regrown y4
        have Y5 := cell_regrown y5
        have Y6 := cell_regrown y6
        have Y7 := cell_regrown y7
        have Y8 := cell_regrown y8
        have Y9 := cell_regrown y9
        have Y10 := cell_regrown y10
        have Y11 := cell_regrown y11
        have Y12 := cell_regrown y12
        have Y13 := cell_regrown y13
        have X0 := cell_regrown x0
        have X1 := cell_regrown x1
        have X2 := cell_regrown x2
        have X3 := cell_regrown x3
        have X4 := cell_regrown x4
        have X5 := cell_regrown x5
        have X6 := cell_regrown x6
        have X7 := cell_regrown x7
        have X8 := cell_regrown x8
        have X9 := cell_regrown x9
        have X10 := cell_regrown x10
        obtain ⟨R1, hR1⟩ : ∃ R : Value → World → Prop, R = fun v w' => ∃ (a b c : Option Addr) (ca cb cc : Nat), v = .agg #[.int .i64 (rN : Int), .int .i64 (cN : Int), .int .i64 (wN : Int), .int .i64 (hN : Int), .slice a ln ca, .slice b pn cb, .slice c ik cc, .int .i64 top, .bool cur, .int .i64 row, .int .i64 col] := ⟨_, rfl⟩
        obtain ⟨R7, hR7⟩ : ∃ R : Value → World → Prop, R = fun v w' => v = .agg #[.int .i64 pim, .int .i64 pid, .bool palt, .int .i64 pline, .int .i64 pcol, .int .i64 prows, .int .i64 pcols, .int .i64 px, .int .i64 py, .int .i64 pw, .int .i64 ph, .int .i64 pdx, .int .i64 pdy, .int .i64 pz] := ⟨_, rfl⟩
        obtain ⟨R8, hR8⟩ : ∃ R : Value → World → Prop, R = fun v w' => v = .tuple #[.int .i64 rx, .int .i64 ry, .int .i64 rw', .int .i64 rh] := ⟨_, rfl⟩
        have HR1' := Lib.hid hR1
        have HR7 := Lib.hid hR7
        have HR8 := Lib.hid hR8
        have HWT := Lib.hid (And.intro hWT kT)
        clear x0 x1 x2 x3 x4 x5 x6 x7 x8 x9 x10 y0 y1 y2 y3 y4 y5 y6 y7 y8 y9 y10 y11 y12 y13 hWT kT hR1 hR7 hR8
        go_wp2
        refine wp_region_grow #[0, 1, 0, 4, 0, 28, 60, 127, 255, 511, 1023, 1023, 1023, 1023, 2047, 20479, 57343, 131071] 14 [11, 12, 13] (fun i => if i = 1 then some R1 else if i = 7 then some R7 else if i = 8 then some R8 else none) (by kernel_rfl) rfl (by kernel_rfl) (fun i hi => by simp at hi; rcases hi with rfl | rfl | rfl <;> rfl) (fun _ _ _ _ _ h => h) ?_
        rintro _ rfl
        rw [← HWT.out.1]
        simp only [List.take_succ_cons, List.take_zero, List.drop_succ_cons, List.drop_zero, number, Nat.reduceAdd]
        iterate 1 (refine wpGrow_step (fun K hK => ?_); go_simp; refine hK _ _ ?_; clear hK K)
        refine wpGrow_step (fun K hK => ?_)
        go_simp
        refine ⟨fun w' hg => (HOFS.out HPN.out.2 w' ((HMK.out.then HWT.out.2).then hg.old)).mono (fun e9 w'' ⟨a, b, c, ca, cb, cc, he, hk, _⟩ => ⟨_, he, hk, by rw [HR1'.out]; exact ⟨a, b, c, ca, cb, cc, rfl⟩⟩), fun v1 w11 hv1 _ => ?_⟩
        rw [HR1'.out] at hv1
        obtain ⟨a', b', c', ca', cb', cc', rfl⟩ := hv1
        refine hK _ _ ?_; clear hK K
        iterate 5 (refine wpGrow_step (fun K hK => ?_); go_simp; refine hK _ _ ?_; clear hK K)
        refine wpGrow_step (fun K hK => ?_)
        go_simp
        refine ⟨fun w' hg => (HOF.out w').mono (fun e9 w'' ⟨he, hk⟩ => ⟨_, he, hk, by rw [HR7.out]⟩), fun v7 w17 hv7 _ => ?_⟩
        rw [HR7.out] at hv7
        subst hv7
        refine hK _ _ ?_; clear hK K
        refine wpGrow_step (fun K hK => ?_)
        go_simp
        refine ⟨fun w' hg => (HR2.out a' b' c' ca' cb' cc' w').mono (fun e9 w'' ⟨he, hk⟩ => ⟨_, he, hk, by rw [HR8.out]⟩), fun v8 w18 hv8 _ => ?_⟩
        rw [HR8.out] at hv8
        subst hv8
        refine hK _ _ ?_; clear hK K
        iterate 5 (refine wpGrow_step (fun K hK => ?_); go_simp; refine hK _ _ ?_; clear hK K)
        refine wpGrow_nil ?_
        intro w20 hk20 hω
        have HK20 := Lib.hid (HKW.out.then (HWT.out.2.then hk20))
        clear hω hk20 X0 X1 X2 X3 X4 X5 X6 X7 X8 X9 X10 Y0 Y1 Y2 Y3 Y4 Y5 Y6 Y7 Y8 Y9 Y10 Y11 Y12 Y13
        go_wp2
        go_roundg (gk - 1)
        case rel => exact ⟨i + 1, by omega, by omega, by go_num, HK20.out⟩
        case measure => omega
      · have g1 : decide (i < pn) = false := decide_eq_false hi1
        have g1' : decide ((i : Int) < (pn : Int)) = false := decide_eq_false (by omega)
        have HE := Lib.hid (H8.out.1.then hk)
        clear hk
        go_wp2
        exact bodyPost_ret (v := .bool true) (by simp [results, Try.results3, go_sem]) rfl ⟨rfl, HE.out.below⟩
end Go.Proofs.Ytdjgmhbfohbenaa
